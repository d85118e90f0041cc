/- History as plain data. What is said, as it comes in; the text of a letter. -/
import Derived.Test.YtbaknecnkipooaaM36
import Derived.Test.YtbaknecnkipooaaM02
namespace Go.Proofs.Ytbaknecnkipooaa.Hld
open Go Go.RowKit Go.Proofs.YtbaknecnkipooaaW.PrintWords Go.Proofs.Ytbaknecnkipooaa.Sep Go.Proofs.Ytbaknecnkipooaa.Obj
set_option linter.unusedVariables false
set_option linter.unusedSimpArgs false
def hisK (K : List Int) (m : Nat) : List Int := (K.drop (m * 16)).take 16
def putK (K : List Int) (m : Nat) (v : List Int) : List Int := K.take (m * 16) ++ (v ++ K.drop (m * 16 + 16))
theorem hisK_len {K : List Int} (hK : K.length = 64) {m : Nat} (hm : m < 4) : (hisK K m).length = 16 := by simp [hisK, hK]; omega
theorem hisK_at (K : List Int) (m j : Nat) (hj : j < 16) : (hisK K m).getD j 0 = K.getD (m * 16 + j) 0 := by
  simp only [hisK, List.getD_eq_getElem?_getD, List.getElem?_take, List.getElem?_drop, if_pos hj]
theorem putK_len {K v : List Int} (hK : K.length = 64) (hv : v.length = 16) {m : Nat} (hm : m < 4) : (putK K m v).length = 64 := by simp [putK, hK, hv]; omega
theorem putK_at {K v : List Int} (hK : K.length = 64) (hv : v.length = 16) {m : Nat} (hm : m < 4) (n j : Nat) (hn : n < 4) (hj : j < 16) : (putK K m v).getD (n * 16 + j) 0 = if n = m then v.getD j 0 else K.getD (n * 16 + j) 0 := by
  have h1 : (K.take (m * 16)).length = m * 16 := by simp [hK]; omega
  unfold putK
  simp only [List.getD_eq_getElem?_getD]
  rcases Nat.lt_trichotomy n m with h | h | h
  · rw [if_neg (by omega), List.getElem?_append_left (by omega), List.getElem?_take, if_pos (by omega)]
  · subst h
    rw [if_pos rfl, List.getElem?_append_right (by omega), h1, List.getElem?_append_left (by omega)]
    congr 2
    omega
  · rw [if_neg (by omega), List.getElem?_append_right (by omega), h1, List.getElem?_append_right (by omega), hv, List.getElem?_drop]
    congr 2
    omega
theorem putK_mem {K v : List Int} {m : Nat} {x : Int} (h : x ∈ putK K m v) : x ∈ K ∨ x ∈ v := by
  unfold putK at h
  rcases List.mem_append.1 h with h | h
  · exact .inl (List.mem_of_mem_take h)
  · rcases List.mem_append.1 h with h | h
    · exact .inr h
    · exact .inl (List.mem_of_mem_drop h)
theorem joinL_at (a b : List Int) (j : Nat) (hj : j < 16) : (joinL a b).getD j 0 = mx (a.getD j 0) (b.getD j 0) := by
  unfold joinL
  rw [joinN_at a b 16 j hj, if_pos hj]
theorem getD_get {l : List Int} {j : Nat} (hj : j < l.length) : l.getD j 0 = l[j] := by simp [List.getD_eq_getElem?_getD, hj]
theorem joinL_ok {a b : List Int} (ha : okV a) (hb : okV b) : okV (joinL a b) := by
  refine ⟨joinL_len a b, fun x hx => ?_⟩
  obtain ⟨j, hj, rfl⟩ := List.getElem_of_mem hx
  have hj16 : j < 16 := by rw [joinL_len] at hj; exact hj
  have h := joinL_at a b j hj16
  rw [← getD_get hj, h]
  unfold mx
  have h1 := okV_at ha j hj16
  have h2 := okV_at hb j hj16
  split <;> omega
structure HisI (K : List Int) (out : List It) : Prop where
  len : K.length = 64
  ok : ∀ x ∈ K, 0 ≤ x ∧ x ≤ 65535
  caus : Caus out
  mem : ∀ x ∈ out, x.frm < 4
  txt : ∀ x ∈ out, x.text.size ≤ 4
  le : ∀ m, m < 4 → ∀ j, j < 16 → K.getD (m * 16 + j) 0 ≤ cnt out out.length j
  self : ∀ m, m < 4 → K.getD (m * 16 + m) 0 = cnt out out.length m
theorem HisI.vec {K : List Int} {out : List It} (h : HisI K out) {m : Nat} (hm : m < 4) : okV (hisK K m) :=
  ⟨hisK_len h.len hm, fun x hx => h.ok x (List.mem_of_mem_drop (List.mem_of_mem_take hx))⟩
theorem HisI.start : HisI (List.replicate 64 0) [] := by
  have hz : ∀ n, (List.replicate 64 (0 : Int)).getD n 0 = 0 := fun n => by
    simp only [List.getD_eq_getElem?_getD, List.getElem?_replicate]
    split <;> rfl
  refine ⟨by simp, fun x hx => ?_, ⟨fun x hx => (by cases hx), fun x hx => (by cases hx), fun x hx => (by cases hx), fun i hi => (by cases hi), fun i hi => (by cases hi)⟩, fun x hx => (by cases hx), fun x hx => (by cases hx), fun m hm j hj => ?_, fun m hm => ?_⟩
  · rw [List.eq_of_mem_replicate hx]; omega
  · rw [hz]; exact cnt_nonneg _ _ _
  · rw [hz]; simp [cnt]
theorem past_inc {out : List It} (hC : Caus out) {x : It} (hx : x ∈ out) : okV (inc x.past x) ∧ (∀ j, j < 16 → (inc x.past x).getD j 0 ≤ cnt out out.length j) ∧ x.past.getD x.frm.toNat 0 = x.seq ∧ x.frm.toNat < 16 := by
  obtain ⟨i, hi, rfl⟩ := List.getElem_of_mem hx
  have hok := hC.ok _ hx
  have hr := hC.right _ hx
  have hf := right_frm hok hr
  have hs : out[i].past.getD out[i].frm.toNat 0 = out[i].seq := by
    unfold rightI rightB at hr
    rw [Bool.and_eq_true] at hr
    exact of_decide_eq_true hr.2
  have hle : ∀ x ∈ out[i].past, x ≤ 1000 := by
    intro z hz
    unfold rightI rightB mayB at hr
    simp only [Bool.and_eq_true] at hr
    exact of_decide_eq_true (List.all_eq_true.1 hr.1.1.1.1.1 z hz)
  refine ⟨?_, fun j hj => ?_, hs, hf.1⟩
  · unfold inc ofT
    have h1 := okV_at hok.1 out[i].frm.toNat hf.1
    have h2 : out[i].past.getD out[i].frm.toNat 0 ≤ 1000 := by
      have hl : out[i].frm.toNat < out[i].past.length := by rw [hok.1.1]; exact hf.1
      have e : out[i].past.getD out[i].frm.toNat 0 = out[i].past[out[i].frm.toNat] := by simp [List.getD_eq_getElem?_getD, hl]
      rw [e]
      exact hle _ (List.getElem_mem hl)
    exact okV_set hok.1 _ _ (by omega) (by omega)
  · rw [inc_at hok.1.1 hf.1]
    have h3 := cnt_mono out j (show i + 1 ≤ out.length from hi)
    have h4 := cnt_succ hi j
    split
    · rename_i hjf
      rw [if_pos hjf.symm] at h4
      rw [hjf, hs, hC.seq i hi, ← hjf]
      omega
    · have h5 := hC.past i hi j hj
      have h6 := cnt_mono out j (show i ≤ i + 1 by omega)
      omega
theorem HisI.hear {K : List Int} {out : List It} (h : HisI K out) {m : Nat} (hm : m < 4) {x : It} (hx : x ∈ out) : HisI (putK K m (joinL (hisK K m) (inc x.past x))) out := by
  obtain ⟨hv, hle, hs, hf⟩ := past_inc h.caus hx
  have hj := joinL_ok (h.vec hm) hv
  refine ⟨putK_len h.len hj.1 hm, fun z hz => ?_, h.caus, h.mem, h.txt, fun n hn j hj16 => ?_, fun n hn => ?_⟩
  · rcases putK_mem hz with hz | hz
    · exact h.ok z hz
    · exact hj.2 z hz
  · rw [putK_at h.len hj.1 hm n j hn hj16]
    split
    · rename_i e
      subst e
      rw [joinL_at _ _ j hj16, hisK_at K n j hj16]
      have h1 := h.le n hn j hj16
      have h2 := hle j hj16
      unfold mx
      split <;> omega
    · exact h.le n hn j hj16
  · rw [putK_at h.len hj.1 hm n n hn (by omega)]
    split
    · rename_i e
      subst e
      rw [joinL_at _ _ n (by omega), hisK_at K n n (by omega)]
      have h1 := h.self n hn
      have h2 := hle n (by omega)
      unfold mx
      split <;> omega
    · exact h.self n hn
theorem HisI.say {K : List Int} {out : List It} (h : HisI K out) (hl : out.length < 1000) {m : Nat} (hm : m < 4) {t : ByteArray} (ht : t.size ≤ 4) :
    HisI (K.set (m * 16 + m) (K.getD (m * 16 + m) 0 + 1)) (out ++ [⟨(m : Int), K.getD (m * 16 + m) 0, 1, hisK K m, t⟩]) := by
  have hmK : m * 16 + m < K.length := by rw [h.len]; omega
  have hs := h.self m hm
  have h0 := cnt_nonneg out out.length m
  have h1 := cnt_le out out.length m
  have hv := h.vec hm
  have hlen : (out ++ [(⟨(m : Int), K.getD (m * 16 + m) 0, 1, hisK K m, t⟩ : It)]).length = out.length + 1 := by simp
  have hsq : (-9223372036854775808 : Int) ≤ K.getD (m * 16 + m) 0 ∧ K.getD (m * 16 + m) 0 ≤ 9223372036854775807 := by omega
  have hcs : ∀ j, cnt (out ++ [(⟨(m : Int), K.getD (m * 16 + m) 0, 1, hisK K m, t⟩ : It)]) (out.length + 1) j = cnt out out.length j + if m = j then 1 else 0 := fun j => by
    have hlt : out.length < (out ++ [(⟨(m : Int), K.getD (m * 16 + m) 0, 1, hisK K m, t⟩ : It)]).length := by rw [hlen]; omega
    rw [cnt_succ hlt j, cnt_app (Nat.le_refl _)]
    simp
  have hokx : okI ⟨(m : Int), K.getD (m * 16 + m) 0, 1, hisK K m, t⟩ := ⟨hv, ⟨by show (0 : Int) ≤ (m : Int); omega, by show (m : Int) ≤ 255; omega⟩, by show t.size ≤ _; omega⟩
  have hall : (hisK K m).all (fun n => decide (n ≤ 1000)) = true := by
    rw [List.all_eq_true]
    intro z hz
    obtain ⟨j, hj, rfl⟩ := List.getElem_of_mem hz
    have hj16 : j < 16 := by rw [hv.1] at hj; exact hj
    have e : (hisK K m).getD j 0 = (hisK K m)[j] := by simp [List.getD_eq_getElem?_getD, hj]
    have h2 := h.le m hm j hj16
    have h3 := cnt_le out out.length j
    rw [← hisK_at K m j hj16, e] at h2
    exact decide_eq_true (by omega)
  have hri : rightI ⟨(m : Int), K.getD (m * 16 + m) 0, 1, hisK K m, t⟩ = true := by
    have h4 : (hisK K m).getD (m : Int).toNat 0 = K.getD (m * 16 + m) 0 := by rw [Int.toNat_natCast]; exact hisK_at K m m (by omega)
    have h5 : (m : Int) < 16 := by omega
    have h6 : t.size ≤ 400 := by omega
    simp only [rightI, rightB, mayB, hall, h4, h5, h6, decide_true, Bool.and_self, Bool.true_and]
    rfl
  have gs : ∀ n, (K.set (m * 16 + m) (K.getD (m * 16 + m) 0 + 1)).getD n 0 = if n = m * 16 + m then K.getD (m * 16 + m) 0 + 1 else K.getD n 0 := fun n => getD_set K _ n _ hmK
  refine ⟨by simp [h.len], fun z hz => ?_, ⟨fun x hx => ?_, fun x hx => ?_, fun x hx => ?_, fun i hi => ?_, fun i hi j hj => ?_⟩, fun x hx => ?_, fun x hx => ?_, fun n hn j hj => ?_, fun n hn => ?_⟩
  · rcases List.mem_or_eq_of_mem_set hz with hz | hz
    · exact h.ok z hz
    · subst hz; omega
  · rcases List.mem_append.1 hx with hx | hx
    · exact h.caus.ok x hx
    · rw [List.mem_singleton.1 hx]; exact hokx
  · rcases List.mem_append.1 hx with hx | hx
    · exact h.caus.cmp x hx
    · rw [List.mem_singleton.1 hx]
      exact ⟨by simpa [WI, Lit.wf, IntKind.min, IntKind.max, IntKind.signed, IntKind.bits] using hsq, rfl⟩
  · rcases List.mem_append.1 hx with hx | hx
    · exact h.caus.right x hx
    · rw [List.mem_singleton.1 hx]; exact hri
  · rcases Nat.lt_or_ge i out.length with hlt | hge
    · rw [List.getElem_append_left hlt, cnt_app (by omega)]
      exact h.caus.seq i hlt
    · have hie : i = out.length := by rw [hlen] at hi; omega
      subst hie
      rw [List.getElem_append_right (Nat.le_refl _), cnt_app (Nat.le_refl _)]
      simp only [Nat.sub_self, List.getElem_cons_zero, Int.toNat_natCast]
      exact hs
  · rcases Nat.lt_or_ge i out.length with hlt | hge
    · rw [List.getElem_append_left hlt, cnt_app (by omega)]
      exact h.caus.past i hlt j hj
    · have hie : i = out.length := by rw [hlen] at hi; omega
      subst hie
      rw [List.getElem_append_right (Nat.le_refl _), cnt_app (Nat.le_refl _)]
      simp only [Nat.sub_self, List.getElem_cons_zero]
      rw [hisK_at K m j hj]
      exact h.le m hm j hj
  · rcases List.mem_append.1 hx with hx | hx
    · exact h.mem x hx
    · rw [List.mem_singleton.1 hx]; show (m : Int) < 4; omega
  · rcases List.mem_append.1 hx with hx | hx
    · exact h.txt x hx
    · rw [List.mem_singleton.1 hx]; exact ht
  · rw [hlen, hcs, gs]
    have h2 := h.le n hn j hj
    by_cases e : n * 16 + j = m * 16 + m
    · have e1 : n = m := by omega
      have e2 : j = m := by omega
      rw [if_pos e, if_pos e2.symm, e2]
      omega
    · rw [if_neg e]
      split <;> omega
  · rw [hlen, hcs, gs]
    have h2 := h.self n hn
    by_cases e : n = m
    · subst e
      rw [if_pos rfl, if_pos rfl]
      omega
    · rw [if_neg (by omega), if_neg (fun e' => e e'.symm)]
      omega
def knC (K : List Int) : Array Value := (nums .u16 K).toArray
theorem knC_size {K : List Int} (h : K.length = 64) : (knC K).size = 64 := by simp [knC, nums, h]
theorem knC_at {K : List Int} {i : Nat} (h : i < K.length) : (knC K)[i]? = some (.int .u16 (K.getD i 0)) := by simpa [knC] using nums_at K i h
theorem knC_vec {K : List Int} (hK : K.length = 64) {m : Nat} (hm : m < 4) : (knC K).extract (m * 16) (m * 16 + 16) = vecC (hisK K m) := by
  apply Array.toList_inj.1
  simp [knC, vecC, hisK, nums, List.map_take, List.map_drop, List.take_drop]
  try (congr 1; omega)
theorem knC_put {K v : List Int} (hK : K.length = 64) (hv : v.length = 16) {m : Nat} (hm : m < 4) : (putL (knC K).toList (m * 16) (vecC v).toList).toArray = knC (putK K m v) := by
  apply Array.toList_inj.1
  simp [knC, vecC, putK, putL, nums, hv]
theorem knC_set {K : List Int} {i : Nat} (h : i < K.length) (y : Int) : (putL (knC K).toList i [.int .u16 y]).toArray = knC (K.set i y) := by
  apply Array.toList_inj.1
  simp only [knC, putL, nums, List.toList_toArray, List.map_set]
  rw [List.set_eq_take_append_cons_drop]
  simp [h]
def runeB (r : Nat) : ByteArray := ⟨#[(97 + r).toUInt8]⟩
theorem runeB_size (r : Nat) : (runeB r).size ≤ 4 := by show 1 ≤ 4; decide
end Go.Proofs.Ytbaknecnkipooaa.Hld
namespace Go.Proofs.Ytbaknecnkipooaa.Hld
open Go Go.RowKit Go.Proofs.YtbaknecnkipooaaW.PrintWords Go.Proofs.Ytbaknecnkipooaa.Sep Go.Proofs.Ytbaknecnkipooaa.Obj Go.Proofs.Ytbaknecnkipooaa.Opn
set_option linter.unusedVariables false
set_option linter.unusedSimpArgs false
def kSe : Kd (Int × Int) := Kd.pair (Kd.int .u8) (Kd.int .u8)
theorem opensSe : Opens Try.prog 67 kSe (fun x => WI .u8 x.1 ∧ WI .u8 x.2) :=
  opens_struct Try.underlying67 (by kernel_rfl) (opensF_cons rfl (by kernel_rfl) (opens_int Try.underlying5) (opensF_one rfl (by kernel_rfl) (opens_int Try.underlying5)))
theorem at_Se {w : World} {A : Option Addr} {n : Nat} {xs : List (Int × Int)} (h : kSe.C w A n xs) (i : Nat) (h1 : i < xs.length) : ∃ g o, A = some ⟨g, o, none⟩ ∧ w.cell? ⟨g, o + i * 2, none⟩ = some (.int .u8 xs[i].1) ∧ w.cell? ⟨g, o + i * 2 + 1, none⟩ = some (.int .u8 xs[i].2) := by
  have hn := Kd.C_len h
  obtain ⟨ad, c, e, _, hK, hc0⟩ := Kd.C_get h (0, 0) (i : Int) (by omega) (by omega)
  have hx : xs.getD (i : Int).toNat (0, 0) = xs[i] := by simp [h1]
  rw [hx] at hK
  obtain ⟨_, _, rfl, rfl, rfl⟩ := hK
  have h0 := hc0 0 _ rfl
  have h2 := hc0 1 _ rfl
  obtain ⟨g, o, sp⟩ := ad
  cases sp with
  | none =>
    refine ⟨g, o, e, ?_, ?_⟩
    · rw [add_at] at h0; exact h0
    · rw [add_at] at h2; exact h2
  | some s =>
    exfalso
    obtain ⟨ad2, c2, e2, _, hK2, hc2⟩ := Kd.C_get h (0, 0) (0 : Int) (by omega) (by omega)
    obtain rfl := Option.some.inj (e.symm.trans e2)
    obtain ⟨_, _, rfl, rfl, rfl⟩ := hK2
    have h0 := hc2 0 _ rfl
    have e3 : ((⟨g, o, some s⟩ : Addr).add ((0 : Int).toNat * kSe.sz + 0)) = ⟨g, o, some s⟩ := rfl
    rw [e3] at h0
    unfold World.cell? at h0
    split at h0 <;> simp at h0
theorem at_B {w : World} {A : Option Addr} {n : Nat} {xs : List Int} (h : (Kd.int .u8).C w A n xs) (i : Nat) (h1 : i < xs.length) : ∃ g o, A = some ⟨g, o, none⟩ ∧ w.cell? ⟨g, o + i, none⟩ = some (.int .u8 xs[i]) := by
  have hn := Kd.C_len h
  obtain ⟨ad, c, e, _, hK, hc0⟩ := Kd.C_get h 0 (i : Int) (by omega) (by omega)
  have hx : xs.getD (i : Int).toNat 0 = xs[i] := by simp [h1]
  rw [hx] at hK
  obtain rfl := hK
  have h0 := hc0 0 _ rfl
  obtain ⟨g, o, sp⟩ := ad
  cases sp with
  | none =>
    refine ⟨g, o, e, ?_⟩
    rw [add_at] at h0
    have e1 : o + ((i : Int).toNat * (Kd.int .u8).sz + 0) = o + i := by show o + ((i : Int).toNat * 1 + 0) = o + i; omega
    rw [e1] at h0
    exact h0
  | some s =>
    exfalso
    obtain ⟨ad2, c2, e2, _, hK2, hc2⟩ := Kd.C_get h 0 (0 : Int) (by omega) (by omega)
    obtain rfl := Option.some.inj (e.symm.trans e2)
    obtain rfl := hK2
    have h0 := hc2 0 _ rfl
    have e3 : ((⟨g, o, some s⟩ : Addr).add ((0 : Int).toNat * (Kd.int .u8).sz + 0)) = ⟨g, o, some s⟩ := rfl
    rw [e3] at h0
    unfold World.cell? at h0
    split at h0 <;> simp at h0
set_option maxRecDepth 100000 in
theorem rune_run {a : Act} {o : Oper} {x : Operand} (ho : o.op = .convert 21 9 x) (r : Nat) (hr : r < 26) (hx : a.eval x = .int .i32 (97 + (r : Int))) (w : World) : (execOp a.eval o).run Try.prog w = .ok (.value (.string (runeB r))) w := by
  simp only [execOp, ho, hx]
  obtain rfl | rfl | rfl | rfl | rfl | rfl | rfl | rfl | rfl | rfl | rfl | rfl | rfl | rfl | rfl | rfl | rfl | rfl | rfl | rfl | rfl | rfl | rfl | rfl | rfl | rfl : r = 0 ∨ r = 1 ∨ r = 2 ∨ r = 3 ∨ r = 4 ∨ r = 5 ∨ r = 6 ∨ r = 7 ∨ r = 8 ∨ r = 9 ∨ r = 10 ∨ r = 11 ∨ r = 12 ∨ r = 13 ∨ r = 14 ∨ r = 15 ∨ r = 16 ∨ r = 17 ∨ r = 18 ∨ r = 19 ∨ r = 20 ∨ r = 21 ∨ r = 22 ∨ r = 23 ∨ r = 24 ∨ r = 25 := by omega
  all_goals kernel_rfl
theorem ev_loadA_step {P : Program} {ops : Array Oper} {o : Oper} {a : Act} {Q : Exit → Act → World → Prop} {Kc : Act → World → Prop} {E : Prop} {w : World} {g : Nat} {cs : Array Value} {T : TypeId} (hg : w.heap[g]? = some (.cells cs T (0, 0))) (j n : Nat) (vs : Array Value) (hvs : cs.extract j (j + n) = vs) (hw : Region.wanted o (yielded ops a.tmps) = true) {t : TypeId} {p : Operand} (ho : o.op = .load t p) (hp : a.eval p = .pointer (some ⟨g, j, none⟩)) {d : TypeDesc} (hu : P.underlying t = some d) (hd : d.isRow = true) (hs : vs.size = n) (hn : (P.info? t).map (·.size) = some n)
    (h : Kc (a.put o.dst (.agg vs)) w) : if Region.wanted o (yielded ops a.tmps) = true then Oper.wp P o a w Kc Q else E := by
  rw [if_pos hw]
  have hr := World.rangeAt_of_block hg j n
  rw [hvs] at hr
  exact wp_load_mid t p ho g j hp vs.toList d hr hu hd (by rw [hn]; simp [hs]) (by simpa using h)
theorem ev_loadR_step {P : Program} {ops : Array Oper} {o : Oper} {a : Act} {Q : Exit → Act → World → Prop} {Kc : Act → World → Prop} {E : Prop} {w : World} {b p0 n : Nat} {cs : Array Value} (hr : w.rangeAt b p0 cs.toList) (hw : Region.wanted o (yielded ops a.tmps) = true) {t : TypeId} {p : Operand} (ho : o.op = .load t p) (hp : a.eval p = .pointer (some ⟨b, p0, none⟩)) {d : TypeDesc} (hu : P.underlying t = some d) (hd : d.isRow = true) (hs : cs.size = n) (hn : (P.info? t).map (·.size) = some n)
    (h : Kc (a.put o.dst (.agg cs)) w) : if Region.wanted o (yielded ops a.tmps) = true then Oper.wp P o a w Kc Q else E := by
  rw [if_pos hw]
  exact wp_load_mid t p ho b p0 hp cs.toList d hr hu hd (by rw [hn]; simp [hs]) (by simpa using h)
theorem perm_apart {xs H : List It} (p : xs.Perm H) (h : Apart H) : Apart xs := (List.Perm.pairwise_iff (fun {a b} (h : same a b = false) => by rw [same_comm]; exact h) p).2 h
theorem take_apart {xs : List It} (h : Apart xs) {i : Nat} (hi : i < xs.length) : ∀ y ∈ xs.take i, same y xs[i] = false := by
  intro y hy
  obtain ⟨k, hk, rfl⟩ := List.getElem_of_mem hy
  rw [List.getElem_take]
  exact List.pairwise_iff_getElem.1 h k i _ hi (by simp at hk; omega)
theorem swap_perm {xs : List It} {i k : Nat} (hi : i < xs.length) (hk : k < xs.length) : ((xs.set i xs[k]).set k xs[i]).Perm xs := List.set_set_perm hi hk
theorem swap_take (xs : List It) {i k : Nat} (hik : i ≤ k) (a b : It) : ((xs.set i a).set k b).take i = xs.take i := by
  apply List.ext_getElem?
  intro j
  rw [List.getElem?_take, List.getElem?_take]
  split
  · rw [List.getElem?_set_ne (by omega), List.getElem?_set_ne (by omega)]
  · rfl
theorem evS_elem_step {P : Program} {ops : Array Oper} {o : Oper} {a : Act} {Q : Exit → Act → World → Prop} {Kc : Act → World → Prop} {E : Prop} {S : Nat → Prop} {As : List Asr} {w0 W : World} (HH : OwnS S As w0 W) (i : Nat) (hw : Region.wanted o (yielded ops a.tmps) = true) (hN : o.dst = none) {t : TypeId} {p x : Operand} (ho : o.op = .store t p x)
    {g n c e : Nat} {xs : List It} (hi : As[i]? = some (Sep.row kIt e (.slice (some ⟨g, 0, none⟩) n c) xs)) (k : Nat) (hk : k < n) {off : Nat} (hp : a.eval p = .pointer (some ⟨g, off, none⟩)) (hoff : off = k * 20) (y : It) (hy : okI y) (hx : a.eval x = .agg (itC y)) (ht : (P.info? t).map (·.size) = some 20)
    (h : ∀ w', OwnS S (As.set i (Sep.row kIt e (.slice (some ⟨g, 0, none⟩) n c) (xs.set k y))) w0 w' → Kc a w') : if Region.wanted o (yielded ops a.tmps) = true then Oper.wp P o a W Kc Q else E := by
  rw [if_pos hw]
  subst hoff
  obtain ⟨h0, F, hF⟩ := HH
  have HO : kIt.R e W 0 (Fp S w0 W F i) (.slice (some ⟨g, 0, none⟩) n c) xs := hF i _ hi
  have hn := (Kd.R_reads' HO).1
  have hk' : k < xs.length := by omega
  obtain ⟨g', o', ea, hox, hrx⟩ := at_It (Kd.R_reads' HO).2.2 k hk'
  cases ea
  have hcl : (itC xs[k]).toList.length = kIt.sz := by rw [Array.length_toList, itC_size _ hox.1.1]; rfl
  have hyl : (itC y).toList.length = 20 := by rw [Array.length_toList, itC_size _ hy.1.1]
  have hM : kIt.M W 0 (fun _ => False) y ((itC xs[k]).toList.take 0 ++ (itC y).toList ++ (itC xs[k]).toList.drop (0 + (itC y).toList.length)) := by
    refine ⟨?_, hy⟩
    rw [List.drop_of_length_le (by rw [hcl, hyl]; exact Nat.le_refl _)]
    simp
  obtain ⟨hrow, hg⟩ := Kd.R_seg HO (i := (k : Int)) (j := 0) (seg := (itC y).toList) (okp := fun _ => False) (by omega) (by omega) hcl (fun j u hj => by have := hrx j u hj; simp only [Int.toNat_natCast, Nat.zero_add] at this ⊢; exact this) (by rw [hyl]; exact Nat.le_refl _) hM (fun _ hk => hk.elim)
  obtain ⟨_, inner, hown, hr⟩ := HO
  have hrun : (Instr.storeAt t (.pointer (some ⟨g, k * 20, none⟩)) (.agg (itC y))).run P W = .ok () (W.setCells g (k * 20) (itC y).toList) := by
    rcases hown.2 with ⟨hv, _⟩ | ⟨g', cap', cur, hv, hb, hh, hnc, hcm, hcs, _⟩
    · cases hv
    injection hv with ha _ hc
    injection ha with ha
    injection ha with hg'
    subst hg'; subst hc
    refine run_store_run t _ (itC y).toList hh rfl (by rw [ht, hyl]) ?_ (itC_one y)
    rw [hyl]
    have h2 : k * 20 + 20 ≤ n * 20 := by omega
    have h3 : n * 20 ≤ c * 20 := Nat.mul_le_mul_right _ (by omega)
    have h4 : cur.size = c * 20 := hcs
    omega
  unfold Oper.wp execOp
  simp only [ho, hp, hx, Sem.run_bind, Sem.run_pure, Result.andThen_ok, hrun]
  show Kc (a.put o.dst undef) _
  rw [hN]
  have key := ownS_modF h0 hF i hi (Sep.row kIt e (.slice (some ⟨g, 0, none⟩) n c) (xs.set k y)) (w' := W.setCells g (k * 20) (itC y).toList) (Frm.grown (hg : W.grownBy (W.setCells g (k * 20) (itC y).toList) (some g)) (fun q hq => by cases hq; exact (hF i _ hi).1 g (by simp [Value.ownBlock]))) (Kd.R_mono (hrow : kIt.R e (W.setCells g (k * 20) (itC y).toList) 0 (Fp S w0 W F i) (.slice (some ⟨g, 0, none⟩) n c) (xs.set k y)) (fun _ hq => .inl hq))
  exact h _ key
end Go.Proofs.Ytbaknecnkipooaa.Hld
