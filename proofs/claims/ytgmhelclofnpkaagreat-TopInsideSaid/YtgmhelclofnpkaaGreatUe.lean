/- Walks: open a sheet; the number of its truths. -/
import Derived.Test.YtgmhelclofnpkaaGreatUd
namespace Go.Proofs.YtgmhelclofnpkaaGreat
open Go.RowKit Go.Shelf

attribute [local go_sem] Oper.semAt_some
theorem ne_nil_of_tr {aL aH lL lH wq : Int} {cs : List Ct} (x : Tr aL aH lL lH wq cs) : Sh.trs aL aH lL lH wq cs ≠ [] := fun e => by
  have := trs_mem x
  rw [e] at this; cases this
theorem results_cellBB {P : Program} {fn : Func} {tmps : Array Value} {w : World} {a b B C t u : Nat} {v x : Value} (hr : fn.results = #[.cell a t, .cell b u]) (ha : tmps.getD a undef = .pointer (some ⟨B, 0, none⟩)) (hb : tmps.getD b undef = .pointer (some ⟨C, 0, none⟩)) (ho : Own w B [v]) (hp : Own w C [x])
    (hagg : (isAgg t).run P w = .ok false w) (hsz : (sizeOf t).run P w = .ok 1 w) (hagg' : (isAgg u).run P w = .ok false w) (hsz' : (sizeOf u).run P w = .ok 1 w) : (results fn tmps).run P w = .ok (.tuple #[v, x]) w := by
  have ha' : tmps[a]?.getD undef = .pointer (some ⟨B, 0, none⟩) := by simpa using ha
  have hb' : tmps[b]?.getD undef = .pointer (some ⟨C, 0, none⟩) := by simpa using hb
  have hc : w.cell? ⟨B, 0, none⟩ = some v := ho.c 0
  have hd : w.cell? ⟨C, 0, none⟩ = some x := hp.c 0
  simp [results, hr, go_sem, loadVar, hagg, hsz, hagg', hsz', loadCells, ha', hb', asAddr, hc, hd]
end Go.Proofs.YtgmhelclofnpkaaGreat
