/- The calls on a net and the reference's, with letters for what they leave. -/
import Derived.Test.YtnlpfigdinnboaaNetLaw2
namespace Go.Proofs.Ytnlpfigdinnboaa.Net
open Go Go.RowKit Go.Proofs.YtnlpfigdinnboaaW.PrintWords Go.Proofs.Ytnlpfigdinnboaa.Sep Go.Proofs.Ytnlpfigdinnboaa.Obj
set_option linter.unusedVariables false
set_option linter.unusedSimpArgs false

theorem kLt_body {b : World} {f d s : Int} {bd : List Int} {tg : ByteArray} {Ab : Option Addr} {cb : Nat} (h : kLt.K b ⟨f, d, s, bd, tg⟩ (cL ⟨f, d, s, bd, tg⟩ (.slice Ab bd.length cb))) : kU.C b Ab bd.length bd := by
  obtain ⟨A, c, e, _, h2⟩ := kLt_open h
  simp only [cL, List.cons.injEq, Value.slice.injEq] at e
  obtain ⟨_, _, _, ⟨rfl, _, _⟩, _⟩ := e
  exact h2
section
variable {l ls L : List Lt} {f d s : Int} {bd : List Int} {tg : ByteArray}
theorem take_L (S : Nat → Prop) (w : World) (g : Nat) (room : Int) (hT : OwnS S [netA g l room] w w) (h0 : 0 < room) (i : Nat) (hi : i < l.length) (hlb : (l[i]).body.length ≤ 1000000) (hl : l.length ≤ 1000000) (hx : l[i] = ⟨f, d, s, bd, tg⟩) (hL : l.eraseIdx i = L) :
    Calls Try.prog 11 #[.pointer (some ⟨g, 0, none⟩), .int .i64 (i : Int)] w (fun e w' => ∃ A' c', e = .returned (.tuple #[.agg #[.int .u8 f, .int .u8 d, .int .u32 s, .slice A' bd.length c', .string tg], .int .i64 0]) ∧ OwnS S [netA g L room, Sep.row kU 5 (.slice A' bd.length c') bd] w w') := by
  subst hL
  have := take_in S w g l room hT h0 i hi hlb hl
  rw [hx] at this
  exact this
theorem look_L {w : World} {g : Nat} {room : Int} {T : Nat → Prop} (hP : (netA g l room).P w T) (h0 : 0 < room) (i : Nat) (hi : i < l.length) (hlb : (l[i]).body.length ≤ 1000000) (hl : l.length ≤ 1000000) (hx : l[i] = ⟨f, d, s, bd, tg⟩) :
    Calls Try.prog 16 #[.pointer (some ⟨g, 0, none⟩), .int .i64 (i : Int)] w (fun e w' => ∃ A' c', e = .returned (.tuple #[.agg #[.int .u8 f, .int .u8 d, .int .u32 s, .slice A' bd.length c', .string tg], .int .i64 0]) ∧ Own [Sep.row kU 5 (.slice A' bd.length c') bd] w w') := by
  have := look_at hP h0 i hi hlb hl
  rw [hx] at this
  exact this
theorem again_L (S : Nat → Prop) (w : World) (g : Nat) (room : Int) (hT : OwnS S [netA g l room] w w) (h0 : 0 < room) (i : Nat) (hi : i < l.length) (hlb : (l[i]).body.length ≤ 1000000) (hl : l.length ≤ 1000000) (hfull : (l.length : Int) < room) (hL : l ++ [l[i]] = L) :
    Calls Try.prog 15 #[.pointer (some ⟨g, 0, none⟩), .int .i64 (i : Int)] w (fun e w' => e = .returned (.int .i64 0) ∧ OwnS S [netA g L room] w w') := by
  subst hL
  exact again_in S w g l room hT h0 i hi hlb hl hfull
theorem post_L (S : Nat → Prop) (b w : World) (g : Nat) (room : Int) (B : Asr) (hT : OwnS S [netA g l room, B] w w) (h0 : 0 < room) (A : Option Addr) (c : Nat) (hlr : (l.length : Int) ≤ room) (hroom : room ≤ 5000) (hls : ls.length ≤ 1000000) (hc : ls.length ≤ c) (hlb : ∀ x ∈ ls, x.body.length ≤ 1000000)
    (hB : ∀ W T, Below b.heap.size b W → B.P W T → kLt.C W A ls.length ls) (hbw : Below b.heap.size b w) (hS : ∀ k, S k → b.heap.size ≤ k) (k : Nat) (hk : k = min ls.length (room.toNat - l.length)) (hL : l ++ ls.take k = L) :
    Calls Try.prog 18 #[.pointer (some ⟨g, 0, none⟩), .slice A ls.length c] w (fun e w' => e = .returned (.int .i64 (k : Int)) ∧ OwnS S [netA g L room, B] w w') := by
  subst hL
  exact post_calls S b w g l ls room B hT h0 A c hlr hroom hls hc hlb hB hbw hS k hk
theorem rtake_L (b w : World) (A : Option Addr) (c : Nat) (room : Int) (hr : (kLc b).C w A l.length l) (hl : l.length ≤ 1000000) (i : Nat) (hi : i < l.length) (hx : l[i] = ⟨f, d, s, bd, tg⟩) (hL : l.eraseIdx i = L) :
    Calls Try.prog 12 #[.agg #[.slice A l.length c, .int .i64 room], .int .i64 (i : Int)] w (fun e w' => ∃ A' c' Ab cb, e = .returned (.tuple #[.agg #[.slice A' L.length c', .int .i64 room], .agg #[.int .u8 f, .int .u8 d, .int .u32 s, .slice Ab bd.length cb, .string tg], .int .i64 0]) ∧ kU.C b Ab bd.length bd ∧ Own [Sep.row (kLc b) 40 (.slice A' L.length c') L] w w') := by
  subst hL
  have := rtake_in b w A c l room hr hl i hi
  rw [hx] at this
  refine this.mono ?_
  rintro e w' ⟨A', c', Ab, cb, rfl, hK, ho⟩
  exact ⟨A', c', Ab, cb, rfl, kLt_body hK, ho⟩
theorem ragain_L (b w : World) (A : Option Addr) (c : Nat) (room : Int) (hr : (kLc b).C w A l.length l) (hl : l.length ≤ 1000000) (i : Nat) (hi : i < l.length) (hf : (l.length : Int) < room) (hL : l ++ [l[i]] = L) :
    Calls Try.prog 14 #[.agg #[.slice A l.length c, .int .i64 room], .int .i64 (i : Int)] w (fun e w' => ∃ A' c', e = .returned (.tuple #[.agg #[.slice A' L.length c', .int .i64 room], .int .i64 0]) ∧ Own [Sep.row (kLc b) 40 (.slice A' L.length c') L] w w') := by
  have h := ragain_in b w A c l room hr hl i hi hf
  have hn : L.length = l.length + 1 := by rw [← hL]; simp
  rw [← hn, hL] at h
  exact h
theorem rpost_L (b w : World) (A A2 : Option Addr) (c c2 : Nat) (room : Int) (hr : (kLc b).C w A l.length l) (hl : l.length ≤ 1000000) (hr2 : (kLc b).C w A2 ls.length ls) (hls : ls.length ≤ 1000000) (k : Nat) (hlr : (l.length : Int) ≤ room) (hk : k = min ls.length (room.toNat - l.length)) (hL : l ++ ls.take k = L) :
    Calls Try.prog 17 #[.agg #[.slice A l.length c, .int .i64 room], .slice A2 ls.length c2] w (fun e w' => ∃ A' c', e = .returned (.tuple #[.agg #[.slice A' L.length c', .int .i64 room], .int .i64 (k : Int)]) ∧ Own [Sep.row (kLc b) 40 (.slice A' L.length c') L] w w') := by
  have h := rpost_calls b w A A2 c c2 l ls room hr hl hr2 hls k hlr hk
  have hn : L.length = l.length + k := by rw [← hL, List.length_append, List.length_take]; omega
  rw [← hn, hL] at h
  exact h
end
end Go.Proofs.Ytnlpfigdinnboaa.Net
