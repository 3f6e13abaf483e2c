/- Equality of structs of numbers, as one fact of the operation. -/
import Derived.Test.YtibkgnnpmidgfaaDoorCa
namespace Go.Proofs.YtibkgnnpmidgfaaDoor
open Go.RowKit

theorem eql_pt (g g' : Pt) (w : World) :
    (binOp .eql 40 (.agg #[.int .i64 g.1, .int .i64 g.2]) (.agg #[.int .i64 g'.1, .int .i64 g'.2])).run Tryd.prog w = .ok (.bool (decide (g = g'))) w := by
  obtain ⟨a, b⟩ := g
  obtain ⟨c, d⟩ := g'
  by_cases h1 : a = c
  · subst h1
    by_cases h2 : b = d
    · subst h2; simp [go_sem]
    · simp [go_sem, h2]
  · simp [go_sem, h1]
theorem neq_pt (g g' : Pt) (w : World) :
    (binOp .neq 40 (.agg #[.int .i64 g.1, .int .i64 g.2]) (.agg #[.int .i64 g'.1, .int .i64 g'.2])).run Tryd.prog w = .ok (.bool (!decide (g = g'))) w := by
  obtain ⟨a, b⟩ := g
  obtain ⟨c, d⟩ := g'
  by_cases h1 : a = c
  · subst h1
    by_cases h2 : b = d
    · subst h2; simp [go_sem]
    · simp [go_sem, h2]
  · simp [go_sem, h1]
end Go.Proofs.YtibkgnnpmidgfaaDoor
