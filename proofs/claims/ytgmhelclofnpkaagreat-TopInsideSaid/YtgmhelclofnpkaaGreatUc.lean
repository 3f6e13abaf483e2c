/- Walks: all factors of both spans, as an iterator. -/
import Derived.Test.YtgmhelclofnpkaaGreatUb
import Derived.Test.YtgmhelclofnpkaaGreatRgB
import Derived.Test.YtgmhelclofnpkaaGreatKf
namespace Go.Proofs.YtgmhelclofnpkaaGreat
open Go.RowKit Go.Shelf

attribute [local go_sem] Oper.semAt_some
abbrev Fac (aL aH lL lH : Int) := {p : P2 // Sh.In aL aH lL lH p}
def facE (cs : List Ct) (p : P2) : Array Value := #[.agg #[.int .i64 p.1, .int .i64 p.2], .int .i64 (Sh.wrongs cs p)]
/-- What the walks of a valid sheet know. -/
structure ShV (aL aH lL lH wr : Int) (cs : List Ct) : Prop where
  a : 900 ≤ aL ∧ aL ≤ aH ∧ aH ≤ 1100
  l : 900 ≤ lL ∧ lL ≤ lH ∧ lH ≤ 1100
  n : cs.length ≤ 8
  c : ∀ c ∈ cs, Sh.okCt c = true
  w : 0 ≤ wr ∧ wr ≤ 8
theorem shV_of {aL aH lL lH wr : Int} {cs : List Ct} (h : Sh.okSh aL aH lL lH wr cs = true) : ShV aL aH lL lH wr cs := by
  simp only [Sh.okSh, Bool.and_eq_true, decide_eq_true_eq] at h
  obtain ⟨h1, h2, h3, h4, h5⟩ := h
  exact ⟨Sh.okSp_iff.1 h1, Sh.okSp_iff.1 h2, h3, fun c hc => List.all_eq_true.1 h4 c hc, btw_iff.1 h5⟩
end Go.Proofs.YtgmhelclofnpkaaGreat
