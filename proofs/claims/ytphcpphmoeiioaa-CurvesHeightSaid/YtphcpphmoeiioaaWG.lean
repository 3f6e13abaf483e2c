/- A function's results: a struct in a box, and a second one. -/
import Derived.Test.YtphcpphmoeiioaaWE
namespace Go.Proofs.Ytphcpphmoeiioaa
open Go.RowKit Go.Maps

theorem loadCells_own {P : Program} {w : World} {B : Nat} {vs : List Value} (ho : Own w B vs) : ∀ (n i : Nat) (acc : Array Value), i + n = vs.length → (loadCellsFrom ⟨B, 0, none⟩ i n acc).run P w = .ok (acc ++ (vs.drop i).toArray) w
  | 0, i, acc, h => by
    have : vs.drop i = [] := List.drop_eq_nil_of_le (by omega)
    rw [this]
    simp [loadCellsFrom, go_sem]
  | n + 1, i, acc, h => by
    have hi : i < vs.length := by omega
    have hc : w.cell? ⟨B, i, none⟩ = some vs[i] := by rw [ho.c i]; exact List.getElem?_eq_getElem hi
    have ih := loadCells_own (P := P) ho n (i + 1) (acc.push vs[i]) (by omega)
    have e1 : (if i = 0 then (⟨B, 0, none⟩ : Addr) else ⟨B, i, none⟩) = ⟨B, i, none⟩ := by by_cases h0 : i = 0 <;> simp [h0]
    have e2 : acc ++ (vs.drop i).toArray = acc.push vs[i] ++ (vs.drop (i + 1)).toArray := by
      rw [List.drop_eq_getElem_cons hi]
      simp [-List.getElem_cons_drop]
    rw [e2]
    simp [loadCellsFrom, go_sem, Addr.add, e1, hc, ih]
theorem results_cell {P : Program} {fn : Func} {tmps : Array Value} {w : World} {a s B t : Nat} {vs : List Value} (hr : fn.results = #[.cell a t, .tmp s]) (ha : tmps.getD a undef = .pointer (some ⟨B, 0, none⟩)) (ho : Own w B vs)
    (hagg : (isAgg t).run P w = .ok true w) (hsz : (sizeOf t).run P w = .ok vs.length w) : (results fn tmps).run P w = .ok (.tuple #[.agg vs.toArray, tmps.getD s undef]) w := by
  have hl := loadCells_own (P := P) ho vs.length 0 #[] (by omega)
  have ha' : tmps[a]?.getD undef = .pointer (some ⟨B, 0, none⟩) := by simpa using ha
  simp [results, hr, go_sem, loadVar, hagg, hsz, loadCells, hl, ha', asAddr]
end Go.Proofs.Ytphcpphmoeiioaa
