/- Walks: the number of truths of a sheet that has one. -/
import Derived.Test.YtgmhelclofnpkaaGreatUe
namespace Go.Proofs.YtgmhelclofnpkaaGreat
open Go.RowKit Go.Shelf

attribute [local go_sem] Oper.semAt_some
theorem results_cellB_tmp {P : Program} {fn : Func} {tmps : Array Value} {w : World} {a B t u : Nat} {v : Value} (hr : fn.results = #[.cell a t, .tmp u]) (ha : tmps.getD a undef = .pointer (some ⟨B, 0, none⟩)) (ho : Own w B [v])
    (hagg : (isAgg t).run P w = .ok false w) (hsz : (sizeOf t).run P w = .ok 1 w) : (results fn tmps).run P w = .ok (.tuple #[v, tmps.getD u undef]) w := by
  have ha' : tmps[a]?.getD undef = .pointer (some ⟨B, 0, none⟩) := by simpa using ha
  have hc : w.cell? ⟨B, 0, none⟩ = some v := ho.c 0
  simp [results, hr, go_sem, loadVar, hagg, hsz, loadCells, ha', asAddr, hc]
end Go.Proofs.YtgmhelclofnpkaaGreat
