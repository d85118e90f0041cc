/- Tables as they lie; ballots that are only read; what holds of a table. table's right: whether one may be open. -/
import Derived.Test.YtbaknecnkipooaaM15
import Derived.Test.YtbaknecnkipooaaM17
import Derived.Test.YtbaknecnkipooaaM26
import Derived.Test.YtbaknecnkipooaaM27
namespace Go.Proofs.Ytbaknecnkipooaa.Tld
open Go Go.RowKit Go.Proofs.YtbaknecnkipooaaW.PrintWords Go.Proofs.Ytbaknecnkipooaa.Sep Go.Proofs.Ytbaknecnkipooaa.Obj Go.Proofs.Ytbaknecnkipooaa.Vot Go.Proofs.Ytbaknecnkipooaa.Hld
set_option linter.unusedVariables false
set_option linter.unusedSimpArgs false
def tabC (b : List Int) (s : Value) : Array Value := (.int .i64 0 :: .int .u16 15 :: (nums .u16 b ++ [s])).toArray
theorem tabC_size (b : List Int) (s : Value) (h : b.length = 16) : (tabC b s).size = 19 := by simp [tabC, nums, h]
theorem tabC_one (b : List Int) (s : Value) (hs : s.oneCell' = true) : ∀ q ∈ (tabC b s).toList, q.oneCell' = true := by
  intro q hq; simp [tabC, nums] at hq; rcases hq with rfl | rfl | ⟨a, _, rfl⟩ | rfl; rfl; rfl; rfl; exact hs
theorem tabC_at (b : List Int) (s : Value) (i : Nat) (h : i < b.length) : (tabC b s)[2 + i]? = some (.int .u16 (b.getD i 0)) := by
  have := nums_at b i h
  rw [Nat.add_comm]
  simp only [tabC, List.getElem?_toArray, List.getElem?_cons_succ]
  rw [List.getElem?_append_left (by simpa [nums] using h)]
  exact this
theorem tabC_last (b : List Int) (s : Value) (h : b.length = 16) : (tabC b s)[18]? = some s := by
  simp only [tabC, List.getElem?_toArray, List.getElem?_cons_succ]
  rw [List.getElem?_append_right (by simp [nums, h])]
  simp [nums, h]
theorem tabC_vec (b : List Int) (s : Value) (h : b.length = 16) : (tabC b s).extract 2 (2 + 16) = vecC b := by
  obtain ⟨a0, a1, a2, a3, a4, a5, a6, a7, a8, a9, a10, a11, a12, a13, a14, a15, rfl⟩ := list16 b h
  rfl
theorem tabC_slice (b : List Int) (s s' : Value) (h : b.length = 16) : (putL (tabC b s).toList 18 [s']).toArray = tabC b s' := by
  obtain ⟨a0, a1, a2, a3, a4, a5, a6, a7, a8, a9, a10, a11, a12, a13, a14, a15, rfl⟩ := list16 b h
  rfl
theorem tabC_put (b : List Int) (s : Value) (i : Nat) (y : Int) (hv : b.length = 16) (h : i < 16) : (putL (tabC b s).toList (2 + i) [.int .u16 y]).toArray = tabC (b.set i y) s := by
  obtain ⟨a0, a1, a2, a3, a4, a5, a6, a7, a8, a9, a10, a11, a12, a13, a14, a15, rfl⟩ := list16 b hv
  rcases lt16 h with rfl | rfl | rfl | rfl | rfl | rfl | rfl | rfl | rfl | rfl | rfl | rfl | rfl | rfl | rfl | rfl <;> rfl
theorem range_tab {b : List Int} {s : Value} (hv : b.length = 16) {w : World} {g : Nat} {T : TypeId} (h : w.heap[g]? = some (.cells (tabC b s) T (0, 0))) : w.rangeAt g 0 (tabC b s).toList ∧ w.rangeAt g 2 (vecC b).toList := by
  have h1 := World.rangeAt_of_block h 0 19
  have h2 := World.rangeAt_of_block h 2 16
  rw [tabC_vec _ _ hv] at h2
  rw [all_of _ _ (tabC_size b s hv)] at h1
  exact ⟨h1, h2⟩
theorem ret_kept {v : Value} {w : World} {e : Ending} {w' : World} (h : Cnt.Ret v w e w') : e = .returned v ∧ Below w.heap.size w w' := by
  obtain ⟨rfl, m, rfl⟩ := h
  exact ⟨rfl, pw_below_drewN (Below.refl _ _) m⟩
def balsA (ys : List OP) : Asr where
  P := fun w S => ∀ y ∈ ys, kB.R 113 w 0 S (.slice y.x.A1 y.x.c.echoes.length y.x.c1) y.x.c.echoes ∧ kB.R 113 w 0 S (.slice y.x.A2 y.x.c.readies.length y.x.c2) y.x.c.readies
  mono := fun h a y hy => ⟨Kd.R_mono (a y hy).1 h, Kd.R_mono (a y hy).2 h⟩
  move := fun h a y hy => ⟨Kd.R_step (a y hy).1 h, Kd.R_step (a y hy).2 h⟩
section
variable {S : Nat → Prop} {As : List Asr} {w0 w W : World}
theorem bals_get (h : OwnS S As w0 w) (i : Nat) {ys : List OP} (hi : As[i]? = some (balsA ys)) : ∀ y ∈ ys, RBs w y.x := fun y hy => ⟨Kd.R_mono (h.get i hi y hy).1 (fun _ _ => trivial), Kd.R_mono (h.get i hi y hy).2 (fun _ _ => trivial)⟩
theorem bals_nil (h : OwnS S As w0 w) : OwnS S (As ++ [balsA []]) w0 w := h.add (Below.refl _ _) (fun y hy => by simp at hy)
theorem two_one (h : OwnS S As w0 w) (i j : Nat) (hij : i ≠ j) {A B : Asr} (hi : As[i]? = some A) (hj : As[j]? = some B) (A' : Asr) (hp : ∀ T U : Nat → Prop, A.P w T → B.P w U → A'.P w (fun k => T k ∨ U k)) : OwnS S ((As.set i A').set j emp) w0 w := by
  obtain ⟨h0, F, hF⟩ := h
  exact ownS_mod2F h0 hF i j hij hi hj _ (Frm.refl _ _) (A'.mono (fun k hk => .inl hk) (hp _ _ (hF i A hi) (hF j B hj)))
theorem bals_join (h : OwnS S As w0 w) (i j : Nat) (hij : i ≠ j) {ys zs : List OP} (hi : As[i]? = some (balsA ys)) (hj : As[j]? = some (balsA zs)) : OwnS S ((As.set i (balsA (ys ++ zs))).set j emp) w0 w :=
  two_one h i j hij hi hj _ (fun T U a b y hy => by
    rcases List.mem_append.1 hy with hy | hy
    · exact ⟨Kd.R_mono (a y hy).1 (fun _ hk => .inl hk), Kd.R_mono (a y hy).2 (fun _ hk => .inl hk)⟩
    · exact ⟨Kd.R_mono (b y hy).1 (fun _ hk => .inr hk), Kd.R_mono (b y hy).2 (fun _ hk => .inr hk)⟩)
theorem bals_rows (h : OwnS S As w0 w) (i j : Nat) (hij : i ≠ j) (y : OP) (hi : As[i]? = some (Sep.row kB 113 (.slice y.x.A1 y.x.c.echoes.length y.x.c1) y.x.c.echoes)) (hj : As[j]? = some (Sep.row kB 113 (.slice y.x.A2 y.x.c.readies.length y.x.c2) y.x.c.readies)) : OwnS S ((As.set i (balsA [y])).set j emp) w0 w :=
  two_one h i j hij hi hj _ (fun T U a b z hz => by
    rw [List.mem_singleton.1 hz]
    exact ⟨Kd.R_mono a (fun _ hk => .inl hk), Kd.R_mono b (fun _ hk => .inr hk)⟩)
end
section
variable {P : Program} {ops : Array Oper} {rest : List Oper} {o : Oper} {a : Act} {Q : Exit → Act → World → Prop} {Kc : Act → World → Prop} {α : Type} {S : Nat → Prop} {As : List Asr} {w0 W : World}
theorem evS_elem (d : Kd α) (HH : OwnS S As w0 W) (i : Nat) (hgd : o.guard = none) (hN : o.dst = none) {t : TypeId} {p x : Operand} (ho : o.op = .store t p x)
    {g n c e : Nat} {xs : List α} (hi : As[i]? = some (Sep.row d e (.slice (some ⟨g, 0, none⟩) n c) xs)) (k : Nat) (hk : k < n) {off : Nat} (hp : a.eval p = .pointer (some ⟨g, off, none⟩)) (hoff : off = k * d.sz) (y : α) (cy : List Value) (hM : ∀ w T, d.M w 0 T y cy) (hcy : cy.length = d.sz) (u : Value) (hx : a.eval x = u) (hu : u.cells.toList = cy) (ht : (P.info? t).map (·.size) = some d.sz) (h1 : ∀ q ∈ cy, q.oneCell' = true)
    (h : ∀ w', OwnS S (As.set i (Sep.row d e (.slice (some ⟨g, 0, none⟩) n c) (xs.set k y))) w0 w' → wpList P ops Q rest a w') : wpList P ops Q (o :: rest) a W := by
  refine wpList_plain hgd fun K hK => ?_
  subst hoff
  obtain ⟨hrun, key⟩ := elem_run (P := P) d HH i hi k hk y cy hM hcy hu ht h1
  unfold Oper.wp execOp
  simp only [ho, hp, hx, Sem.run_bind, Sem.run_pure, Result.andThen_ok, hrun]
  show K (a.put o.dst undef) _
  rw [hN]
  exact hK a _ (h _ key)
end
structure OkC (c : Cas) : Prop where
  le1 : c.echoes.length ≤ 1
  lr1 : c.readies.length ≤ 1
  eb : ∀ x ∈ c.echoes, x.body.size ≤ 1000
  rb : ∀ x ∈ c.readies, x.body.size ≤ 1000
  we : whoOk c.echoes
  wr : whoOk c.readies
structure OkO (b : List Int) (f s : Nat) (c : Cas) : Prop where
  f4 : f < 4
  s1 : s < 1000
  lo : b.getD f 0 ≤ (s : Int)
  hi : (s : Int) < b.getD f 0 + 8
  nd : b.getD f 0 = (s : Int) → c.done = false
  c : OkC c
structure OkB (b : List Int) : Prop where
  v : okV b
  le : ∀ i, i < 16 → b.getD i 0 ≤ 1000
  z : ∀ i, 4 ≤ i → i < 16 → b.getD i 0 = 0
theorem has15 : ∀ f : Nat, f < 4 → Cnt.hasB 15 (f : Int) = true := by
  intro f hf
  match f, hf with
  | 0, _ => decide
  | 1, _ => decide
  | 2, _ => decide
  | 3, _ => decide
end Go.Proofs.Ytbaknecnkipooaa.Tld
namespace Go.Proofs.Ytbaknecnkipooaa.Tld
open Go Go.RowKit Go.Proofs.YtbaknecnkipooaaW.PrintWords Go.Proofs.Ytbaknecnkipooaa.Sep Go.Proofs.Ytbaknecnkipooaa.Obj Go.Proofs.Ytbaknecnkipooaa.Vot Go.Proofs.Ytbaknecnkipooaa.Hld
set_option linter.unusedVariables false
set_option linter.unusedSimpArgs false
set_option maxHeartbeats 1000000 in
set_option maxRecDepth 100000 in
theorem right_calls (w : World) (b : List Int) (s : Value) (y : OP) (hB : OkB b) (hs : s.oneCell' = true) (hO : OkO b y.frm y.seq y.x.c) (hR : RBs w y.x) : Calls Try.prog 70 #[.agg (tabC b s), .agg (opC y).toArray] w (Kp (.bool true) w) := by
  have ey : (opC y).toArray = #[.int .u8 (y.frm : Int), .int .i64 (y.seq : Int), .bool y.x.c.echoed, .bool y.x.c.readied, .bool y.x.c.done, .slice y.x.A1 y.x.c.echoes.length y.x.c1, .slice y.x.A2 y.x.c.readies.length y.x.c2] := rfl
  rw [ey]
  have HH : Aside0 (OwnS (fun _ => False) [] w w) := ⟨OwnS.of_own (Own.start w)⟩
  have HV : Aside0 (b.length = 16) := ⟨hB.v.1⟩
  have HS := Aside0.mk hs
  have HF : Aside0 (y.frm < 4) := ⟨hO.f4⟩
  have HC : Aside0 (OkC y.x.c) := ⟨hO.c⟩
  have HR1 : Aside0 (∀ W, Below w.heap.size w W → kB.C W y.x.A1 y.x.c.echoes.length y.x.c.echoes) := ⟨fun W hb => Kd.C_below (RBs_reads hR).2.1 hb⟩
  have HR2 : Aside0 (∀ W, Below w.heap.size w W → kB.C W y.x.A2 y.x.c.readies.length y.x.c.readies) := ⟨fun W hb => Kd.C_below (RBs_reads hR).2.2.2 hb⟩
  obtain ⟨n, hn⟩ : ∃ n, b.getD y.frm 0 = n := ⟨_, rfl⟩
  have HN := Aside0.mk hn
  have q1 : (y.frm : Int) < 16 := by have := hO.f4; omega
  have q2 : y.frm < 16 := by have := hO.f4; omega
  have hl := hO.lo
  have hh := hO.hi
  have q5 : (y.seq : Int) < 1000 := by have := hO.s1; omega
  have HD : Aside0 (n = (y.seq : Int) → y.x.c.done = false) := ⟨fun e => hO.nd (hn.trans e)⟩
  have hv := okV_at hB.v y.frm q2
  rw [hn] at hl hh hv
  have q0 : 0 ≤ n := hv.1
  have hwn := wrap_u16 hv.1 hv.2
  have q6 : n < 1001 := by omega
  have q3 : 0 ≤ (y.seq : Int) - n := by omega
  have q4 : (y.seq : Int) - n < 8 := by omega
  have hw2 : IntKind.i64.wrap n = n := by rw [IntKind.wrap_i64]; omega
  have hw3 : IntKind.i64.wrap ((y.seq : Int) - n) = (y.seq : Int) - n := by rw [IntKind.wrap_i64]; omega
  clear ey hn hl hh hv hB hO hR hs
  go_enter Try.func70, Try.ntmps70
  go_wp2_with (first
  | ((with_reducible refine gate_dst (N := 2) rfl ?_); refine evS_box (oh HH) rfl (cs := tabC b (s)) (T := 33) ?_ ?_; (focus first | (go_simp; done) | (go_simp; rfl)); intro g1 w1 he hh; clear he; replace HH : Aside0 (OwnS (fun _ => False) [Sep.blk g1 (tabC b (s)) 33] w w1) := ⟨hh⟩; clear hh)
  | ((with_reducible refine gate_dst (N := 3) rfl ?_); refine evS_box (oh HH) rfl (cs := #[.int .u8 (y.frm : Int), .int .i64 (y.seq : Int), .bool y.x.c.echoed, .bool y.x.c.readied, .bool y.x.c.done, .slice y.x.A1 y.x.c.echoes.length y.x.c1, .slice y.x.A2 y.x.c.readies.length y.x.c2]) (T := 79) ?_ ?_; (focus first | (go_simp; done) | (go_simp; rfl)); intro g2 w2 he hh; clear he; replace HH : Aside0 (OwnS (fun _ => False) [Sep.blk g1 (tabC b (s)) 33, Sep.blk g2 #[.int .u8 (y.frm : Int), .int .i64 (y.seq : Int), .bool y.x.c.echoed, .bool y.x.c.readied, .bool y.x.c.done, .slice y.x.A1 y.x.c.echoes.length y.x.c1, .slice y.x.A2 y.x.c.readies.length y.x.c2] 79] w w2) := ⟨hh⟩; clear hh)
  | ((with_reducible refine gate_ (.load 28 (.tmp 6)) rfl ?_); refine ev_cell (v := .int .u16 15) ((blk_cell (OwnS.blk (oh HH) 0 rfl) 1).trans rfl) rfl rfl (by rfl) Try.underlying28 rfl ?_)
  | ((with_reducible refine gate_ (.load 5 (.tmp 8)) rfl ?_); refine ev_cell (blk_cell (OwnS.blk (oh HH) 1 rfl) 0) rfl rfl (by rfl) Try.underlying5 rfl ?_)
  | (go_at_call 39; refine ownS_call (oh HH) ?_; intro ht; refine (Cnt.has_calls 15 (y.frm : Int) _ (by decide) (by omega)).mono ?_; rintro e w3 hq; obtain ⟨rfl, hb⟩ := ret_kept hq; clear hq; rw [has15 _ HF.out]; replace HH : Aside0 (OwnS (fun _ => False) [Sep.blk g1 (tabC b (s)) 33, Sep.blk g2 #[.int .u8 (y.frm : Int), .int .i64 (y.seq : Int), .bool y.x.c.echoed, .bool y.x.c.readied, .bool y.x.c.done, .slice y.x.A1 y.x.c.echoes.length y.x.c1, .slice y.x.A2 y.x.c.readies.length y.x.c2] 79] w w3) := ⟨OwnS.step ht hb⟩; clear hb; clear ht)
  | fail
  | fail)
  go_upto_region 3 with fail
  go_cut [5] (fun v5 wx => v5 = .int .i64 ((y.seq : Int) - n) ∧ Aside0 (OwnS (fun _ => False) [Sep.blk g1 (tabC b (s)) 33, Sep.blk g2 #[.int .u8 (y.frm : Int), .int .i64 (y.seq : Int), .bool y.x.c.echoed, .bool y.x.c.readied, .bool y.x.c.done, .slice y.x.A1 y.x.c.echoes.length y.x.c1, .slice y.x.A2 y.x.c.readies.length y.x.c2] 79] w wx))
  case first =>
    have HKV : Aside0 (∀ w' : World, OwnS (fun _ => False) [Sep.blk g1 (tabC b (s)) 33, Sep.blk g2 #[.int .u8 (y.frm : Int), .int .i64 (y.seq : Int), .bool y.x.c.echoed, .bool y.x.c.readied, .bool y.x.c.done, .slice y.x.A1 y.x.c.echoes.length y.x.c1, .slice y.x.A2 y.x.c.readies.length y.x.c2] 79] w w' → (w'.cell? ⟨g2, 0, none⟩ = some (.int .u8 (y.frm : Int)) ∧ w'.cell? ⟨g2, 1, none⟩ = some (.int .i64 (y.seq : Int)) ∧ w'.cell? ⟨g1, 2 + y.frm, none⟩ = some (.int .u16 n))) := ⟨fun W h => ⟨blk_cell (OwnS.blk h 1 rfl) 0, blk_cell (OwnS.blk h 1 rfl) 1, (by rw [← HN.out]; exact (blk_cell (OwnS.blk h 0 rfl) (2 + y.frm)).trans (tabC_at _ _ y.frm (by rw [HV.out]; exact Nat.lt_of_lt_of_le HF.out (by decide))))⟩⟩
    refine wp_region_held_drew (S := fun w' => w'.cell? ⟨g2, 0, none⟩ = some (.int .u8 (y.frm : Int)) ∧ w'.cell? ⟨g2, 1, none⟩ = some (.int .i64 (y.seq : Int)) ∧ w'.cell? ⟨g1, 2 + y.frm, none⟩ = some (.int .u16 n)) (by kernel_rfl) ?_ (fun hHeld => ?_)
    focus (try dsimp only); (exact HKV.out _ (oh HH))
    (try dsimp only at hHeld)
    refine otk (i := 0) ?_; (try simp only [Act.put, jjA, jjZ, jjS])
    refine otk (i := 1) (v := .int .i64 (y.seq : Int)) ?_; (try simp only [Act.put, jjA, jjZ, jjS])
    refine otk (i := 2) ?_; (try simp only [Act.put, jjA, jjZ, jjS])
    refine otk (i := 3) (v := .int .u8 (y.frm : Int)) ?_; (try simp only [Act.put, jjA, jjZ, jjS])
    refine otk (i := 4) ?_; (try simp only [Act.put, jjA, jjZ, jjS])
    refine otk (i := 5) (v := .pointer (some ⟨g1, 2 + y.frm, none⟩)) ?_; (try simp only [Act.put, jjA, jjZ, jjS])
    refine otk (i := 6) (v := .int .u16 n) ?_; (try simp only [Act.put, jjA, jjZ, jjS])
    refine otk (i := 7) (v := .int .i64 n) ?_; (try simp only [Act.put, jjA, jjZ, jjS])
    refine otk (i := 8) (v := .int .i64 ((y.seq : Int) - n)) ?_; (try simp only [Act.put, jjA, jjZ, jjS])
    refine otk (i := 9) ?_; (try simp only [Act.put, jjA, jjZ, jjS])
    refine wpAnyH_done (by kernel_rfl) ?_ _
    go_wp2_with fail
    go_meet
    exact ⟨rfl, by first | exact HH | exact ⟨OwnS.drewN HH.out _⟩ | exact ⟨OwnS.drew HH.out⟩⟩
  case rest =>
    clear HH
    obtain ⟨rfl, HH⟩ := hcut
    have fz1 : World.cell? _ ⟨g2, 1, none⟩ = some (.int .i64 (y.seq : Int)) := blk_cell (OwnS.blk HH.out 1 rfl) 1
    have fz4 : World.cell? _ ⟨g2, 4, none⟩ = some (.bool y.x.c.done) := blk_cell (OwnS.blk HH.out 1 rfl) 4
    have fz5 : World.cell? _ ⟨g2, 5, none⟩ = some (.slice y.x.A1 y.x.c.echoes.length y.x.c1) := blk_cell (OwnS.blk HH.out 1 rfl) 5
    have fz6 : World.cell? _ ⟨g2, 6, none⟩ = some (.slice y.x.A2 y.x.c.readies.length y.x.c2) := blk_cell (OwnS.blk HH.out 1 rfl) 6
    by_cases he : (y.seq : Int) - n = 0
    · have hd : y.x.c.done = false := HD.out (by omega)
      rw [hd] at fz4
      have hdd : decide ((y.seq : Int) - n = 0) = true := decide_eq_true he
      go_wp2_with (first
    | (go_at_call 80; refine ownS_call (oh HH) ?_; intro ht; (with_reducible refine (sound_calls _ y.x.A1 y.x.c1 y.x.c.echoes ?_ HC.out.le1 HC.out.eb).mono ?_); (focus exact HR1.out _ (frm_below (OwnS.frm ht))); rintro e w91 ⟨rfl, hb⟩; have HHx : Aside0 (OwnS (fun _ => False) [Sep.blk g1 (tabC b (s)) 33, Sep.blk g2 #[.int .u8 (y.frm : Int), .int .i64 (y.seq : Int), .bool y.x.c.echoed, .bool y.x.c.readied, .bool y.x.c.done, .slice y.x.A1 y.x.c.echoes.length y.x.c1, .slice y.x.A2 y.x.c.readies.length y.x.c2] 79] w w91) := ⟨OwnS.step ht hb⟩; clear HH ht hb; have HH := HHx; clear HHx; have fw911 : w91.cell? ⟨g2, 1, none⟩ = some (.int .i64 (y.seq : Int)) := blk_cell (OwnS.blk HH.out 1 rfl) 1; have fw914 : w91.cell? ⟨g2, 4, none⟩ = some (.bool y.x.c.done) := blk_cell (OwnS.blk HH.out 1 rfl) 4; have fw915 : w91.cell? ⟨g2, 5, none⟩ = some (.slice y.x.A1 y.x.c.echoes.length y.x.c1) := blk_cell (OwnS.blk HH.out 1 rfl) 5; have fw916 : w91.cell? ⟨g2, 6, none⟩ = some (.slice y.x.A2 y.x.c.readies.length y.x.c2) := blk_cell (OwnS.blk HH.out 1 rfl) 6)
    | (go_at_call 80; refine ownS_call (oh HH) ?_; intro ht; (with_reducible refine (sound_calls _ y.x.A2 y.x.c2 y.x.c.readies ?_ HC.out.lr1 HC.out.rb).mono ?_); (focus exact HR2.out _ (frm_below (OwnS.frm ht))); rintro e w92 ⟨rfl, hb⟩; have HHx : Aside0 (OwnS (fun _ => False) [Sep.blk g1 (tabC b (s)) 33, Sep.blk g2 #[.int .u8 (y.frm : Int), .int .i64 (y.seq : Int), .bool y.x.c.echoed, .bool y.x.c.readied, .bool y.x.c.done, .slice y.x.A1 y.x.c.echoes.length y.x.c1, .slice y.x.A2 y.x.c.readies.length y.x.c2] 79] w w92) := ⟨OwnS.step ht hb⟩; clear HH ht hb; have HH := HHx; clear HHx)
    | fail
    | fail)
      go_ret
      exact ⟨rfl, frm_below (OwnS.frm (oh HH))⟩
    · have hdd : decide ((y.seq : Int) - n = 0) = false := decide_eq_false he
      go_wp2_with (first
    | (go_at_call 80; refine ownS_call (oh HH) ?_; intro ht; (with_reducible refine (sound_calls _ y.x.A1 y.x.c1 y.x.c.echoes ?_ HC.out.le1 HC.out.eb).mono ?_); (focus exact HR1.out _ (frm_below (OwnS.frm ht))); rintro e w91 ⟨rfl, hb⟩; have HHx : Aside0 (OwnS (fun _ => False) [Sep.blk g1 (tabC b (s)) 33, Sep.blk g2 #[.int .u8 (y.frm : Int), .int .i64 (y.seq : Int), .bool y.x.c.echoed, .bool y.x.c.readied, .bool y.x.c.done, .slice y.x.A1 y.x.c.echoes.length y.x.c1, .slice y.x.A2 y.x.c.readies.length y.x.c2] 79] w w91) := ⟨OwnS.step ht hb⟩; clear HH ht hb; have HH := HHx; clear HHx; have fw911 : w91.cell? ⟨g2, 1, none⟩ = some (.int .i64 (y.seq : Int)) := blk_cell (OwnS.blk HH.out 1 rfl) 1; have fw914 : w91.cell? ⟨g2, 4, none⟩ = some (.bool y.x.c.done) := blk_cell (OwnS.blk HH.out 1 rfl) 4; have fw915 : w91.cell? ⟨g2, 5, none⟩ = some (.slice y.x.A1 y.x.c.echoes.length y.x.c1) := blk_cell (OwnS.blk HH.out 1 rfl) 5; have fw916 : w91.cell? ⟨g2, 6, none⟩ = some (.slice y.x.A2 y.x.c.readies.length y.x.c2) := blk_cell (OwnS.blk HH.out 1 rfl) 6)
    | (go_at_call 80; refine ownS_call (oh HH) ?_; intro ht; (with_reducible refine (sound_calls _ y.x.A2 y.x.c2 y.x.c.readies ?_ HC.out.lr1 HC.out.rb).mono ?_); (focus exact HR2.out _ (frm_below (OwnS.frm ht))); rintro e w92 ⟨rfl, hb⟩; have HHx : Aside0 (OwnS (fun _ => False) [Sep.blk g1 (tabC b (s)) 33, Sep.blk g2 #[.int .u8 (y.frm : Int), .int .i64 (y.seq : Int), .bool y.x.c.echoed, .bool y.x.c.readied, .bool y.x.c.done, .slice y.x.A1 y.x.c.echoes.length y.x.c1, .slice y.x.A2 y.x.c.readies.length y.x.c2] 79] w w92) := ⟨OwnS.step ht hb⟩; clear HH ht hb; have HH := HHx; clear HHx)
    | fail
    | fail)
      go_ret
      exact ⟨rfl, frm_below (OwnS.frm (oh HH))⟩
end Go.Proofs.Ytbaknecnkipooaa.Tld
