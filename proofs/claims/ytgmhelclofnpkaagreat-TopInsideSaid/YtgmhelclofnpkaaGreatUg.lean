/- Walks: the integers between which a fraction lies in all truths of a sheet. -/
import Derived.Test.YtgmhelclofnpkaaGreatUf
import Derived.Test.YtgmhelclofnpkaaGreatRgI
namespace Go.Proofs.YtgmhelclofnpkaaGreat
open Go.RowKit Go.Shelf

attribute [local go_sem] Oper.semAt_some
namespace Sh
def bdS (f g : P2 → Int) (acc : Option (Int × Int)) (p : P2) : Option (Int × Int) := match acc with
  | none => some (f p, g p)
  | some (a, b) => some (min a (f p), max b (g p))
/-- The least of one and the greatest of another. -/
def bdL (f g : P2 → Int) (l : List P2) : Option (Int × Int) := l.foldl (bdS f g) none
theorem bdL_snoc (f g : P2 → Int) (l : List P2) (p : P2) : bdL f g (l ++ [p]) = bdS f g (bdL f g l) p := by simp [bdL, List.foldl_append]
theorem bdL_none {f g : P2 → Int} {l : List P2} (h : bdL f g l = none) : l = [] := by
  rcases List.eq_nil_or_concat l with rfl | ⟨l', p, rfl⟩
  · rfl
  · rw [List.concat_eq_append, bdL_snoc] at h
    unfold bdS at h
    split at h <;> cases h
end Sh
theorem own_set2' {w : World} {b : Nat} {a0 a1 : Value} (h : Own w b [a0, a1]) (x0 x1 : Value) : Own ((w.setCell ⟨b, 0, none⟩ x0).setCell ⟨b, 1, none⟩ x1) b [x0, x1] := own_set2 h rfl x0 x1
/-- What the boxes of bounds hold. -/
def BdI (B : Nat) (o : Option (Int × Int)) (W : World) : Prop := ∃ a b fl, Own W (B + 1 + 1) [.int .i64 a, .int .i64 b] ∧ Own W (B + 1 + 1 + 1) [.bool fl] ∧ Hid ((o = none ∧ fl = true) ∨ (o = some (a, b) ∧ fl = false))
/-- What the fraction's function does. -/
structure FracF (F : Nat) (lb : Array Value) (num den : P2 → Int) (p : P2) (w : World) : Prop where
  c : ∀ W, Below w.heap.size w W → Calls Tryz.prog F (#[.agg #[.int .i64 p.1, .int .i64 p.2]] ++ lb) W fun e w' => e = .returned (.tuple #[.int .i64 (num p), .int .i64 (den p)]) ∧ Below W.heap.size W w'
  n : 0 ≤ num p ∧ num p ≤ 4000000000000000000
  d : 1 ≤ den p ∧ den p ≤ 4000000000000
theorem loadCells_own {P : Program} {w : World} {B : Nat} {vs : List Value} (ho : Own w B vs) : ∀ (n i : Nat) (acc : Array Value), i + n = vs.length → (loadCellsFrom ⟨B, 0, none⟩ i n acc).run P w = .ok (acc ++ (vs.drop i).toArray) w
  | 0, i, acc, h => by
    have : vs.drop i = [] := List.drop_eq_nil_of_le (by omega)
    rw [this]
    simp [loadCellsFrom, go_sem]
  | n + 1, i, acc, h => by
    have hi : i < vs.length := by omega
    have hc : w.cell? ⟨B, i, none⟩ = some vs[i] := by rw [ho.c i]; exact List.getElem?_eq_getElem hi
    have ih := loadCells_own (P := P) ho n (i + 1) (acc.push vs[i]) (by omega)
    have e1 : (if i = 0 then (⟨B, 0, none⟩ : Addr) else ⟨B, i, none⟩) = ⟨B, i, none⟩ := by by_cases h0 : i = 0 <;> simp [h0]
    have e2 : acc ++ (vs.drop i).toArray = acc.push vs[i] ++ (vs.drop (i + 1)).toArray := by
      rw [List.drop_eq_getElem_cons hi]
      simp [-List.getElem_cons_drop]
    rw [e2]
    simp [loadCellsFrom, go_sem, Addr.add, e1, hc, ih]
theorem results_cell1 {P : Program} {fn : Func} {tmps : Array Value} {w : World} {a B t : Nat} {vs : List Value} (hr : fn.results = #[.cell a t]) (ha : tmps.getD a undef = .pointer (some ⟨B, 0, none⟩)) (ho : Own w B vs)
    (hagg : (isAgg t).run P w = .ok true w) (hsz : (sizeOf t).run P w = .ok vs.length w) : (results fn tmps).run P w = .ok (.agg vs.toArray) w := by
  have hl := loadCells_own (P := P) ho vs.length 0 #[] (by omega)
  have ha' : tmps[a]?.getD undef = .pointer (some ⟨B, 0, none⟩) := by simpa using ha
  simp [results, hr, go_sem, loadVar, hagg, hsz, loadCells, hl, ha', asAddr]
section
attribute [local go_sem ↓] mn2_run mx2_run
end
end Go.Proofs.YtgmhelclofnpkaaGreat
