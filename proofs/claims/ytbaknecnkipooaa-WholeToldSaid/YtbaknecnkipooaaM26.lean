/- hold.Put, whole. -/
import Derived.Test.YtbaknecnkipooaaM25
namespace Go.Proofs.Ytbaknecnkipooaa.Hld
open Go Go.RowKit Go.Proofs.YtbaknecnkipooaaW.PrintWords Go.Proofs.Ytbaknecnkipooaa.Sep Go.Proofs.Ytbaknecnkipooaa.Obj
set_option linter.unusedVariables false
set_option linter.unusedSimpArgs false
theorem put_calls (w : World) (told : List Int) (A : Option Addr) (c : Nat) (l : List It) (x : It) (ht0 : okV told) (hx0 : okI x) (hr : kIt.C w A l.length l) (hq0 : ∀ y ∈ l, WI .i64 y.seq) (hl : l.length ≤ 1000000) : Calls Try.prog 10 #[.agg (hoC told (.slice A l.length c)), .agg (itC x)] w (fun e w' => ∃ A' c' A2 c2, e = .returned (.tuple #[.agg (hoC (putH told l x).1.1 (.slice A' (putH told l x).1.2.1.length c')), .slice A2 (putH told l x).1.2.2.length c2, .int .i64 (putH told l x).2]) ∧ Own [Sep.row kIt 56 (.slice A' (putH told l x).1.2.1.length c') (putH told l x).1.2.1, Sep.row kIt 56 (.slice A2 (putH told l x).1.2.2.length c2) (putH told l x).1.2.2] w w') := by
  cases h1 : rightH told l with
  | false => exact put_1 w told A c l x ht0 hx0 hr hq0 hl h1
  | true =>
    cases h2 : rightI x with
    | false => exact put_2 w told A c l x ht0 hx0 hr hq0 hl h1 h2
    | true =>
      by_cases h3 : x.seq < ofT told x
      · exact put_3 w told A c l x ht0 hx0 hr hq0 hl h1 h2 h3
      · cases h4 : isIn l x with
        | true => exact put_4 w told A c l x ht0 hx0 hr hq0 hl h1 h2 h3 h4
        | false =>
          cases h5 : readyB told x with
          | true => exact put_7 w told A c l x ht0 hx0 hr hq0 hl h1 h2 h3 h4 h5
          | false =>
            by_cases h6 : 64 ≤ l.length
            · exact put_5 w told A c l x ht0 hx0 hr hq0 hl h1 h2 h3 h4 h5 h6
            · exact put_6 w told A c l x ht0 hx0 hr hq0 hl h1 h2 h3 h4 h5 h6
end Go.Proofs.Ytbaknecnkipooaa.Hld
