/- How a slice of structs of numbers is read, wherever it lies: as rows of cells. -/
import Derived.Test.YtgmhelclofnpkaaFrame
import Derived.Test.YtgmhelclofnpkaaKit
import Derived.Deep.SlicePairs
namespace Go.Proofs.Ytgmhelclofnpkaa
open Go.ChangeShapes Go.WideShapes Go.ChangeAt Go.RowKit Go.Deep

def nOf : Value → Int
  | .int _ q => q
  | _ => 0

theorem open_plain_slice {P : Program} {H : Type} {enc : TypeId × Value → H} {w : World} {base : Nat} {spare : Nat → Bool} {held : Bool} {fuel n : Nat} {t e : TypeId} {cs : List Value} {x : DataW H × List MemPlace}
    (ht : P.underlying t = some (.slice e)) (hp : plainB P n e = true) (h0 : 0 < P.cellsOf e) (h : DataW.trod enc P w base spare held fuel t cs = some x) :
    ∃ (A : Option Addr) (len cap : Nat) (rows : List (List Value)), cs = [.slice A len cap] ∧ len = rows.length ∧ len ≤ maxLen ∧ Rd (P.cellsOf e) w A rows ∧
      ∀ r ∈ rows, r.length = P.cellsOf e ∧ ∀ (c : Nat) (v : Value), r[c]? = some v → ∃ a : Int, v = .int .i64 a ∧ (Lit.int .i64 a).wf = true := by
  rcases open_slice ht h with ⟨rfl, _⟩ | ⟨a, len, cap, m, k, D, Pl, rfl, hb, hl, hm, hmm, _, hx⟩
  · exact ⟨none, 0, 0, [], rfl, rfl, Nat.zero_le _, Rd.nil _ _ _, fun r hr => by cases hr⟩
  · have hlm : len ≤ m := by rw [hmm]; split <;> omega
    have each : ∀ i, i < len → ∃ q : List Value, q.length = P.cellsOf e ∧ (∀ j v, q[j]? = some v → w.cell? ((a.add (i * P.cellsOf e)).add j) = some v) ∧ ∀ (c : Nat) (v : Value), q[c]? = some v → ∃ z : Int, v = .int .i64 z ∧ (Lit.int .i64 z).wf = true := by
      intro i hi
      obtain ⟨cs', h1, h2⟩ := hx i (by omega)
      obtain ⟨_, hlen, hcell⟩ := World.cells?_some h1
      refine ⟨cs', hlen, fun j v hj => ?_, fun c v hv => plain_cells n e k cs' _ hp h2 c v hv⟩
      have hjl := (List.getElem?_eq_some_iff.1 hj).1
      rw [← hj]
      exact hcell j (by omega)
    obtain ⟨q, hq⟩ := choose_lt each
    refine ⟨some a, len, cap, (List.range len).map q, rfl, by simp, by omega, ⟨fun i hi => ?_⟩, fun r hr => ?_⟩
    · have hi' : 0 < len := by have : i < len := by simpa using hi
                               omega
      obtain ⟨hq1, hq2, _⟩ := hq 0 hi'
      obtain ⟨v0, hv0⟩ : ∃ v, (q 0)[0]? = some v := ⟨(q 0)[0]'(by omega), by simp⟩
      have c0 := hq2 0 v0 hv0
      have hz : (a.add (0 * P.cellsOf e)).add 0 = a := by simp [Addr.add]
      rw [hz] at c0
      obtain ⟨blk, off, spot⟩ := a
      have hs : spot = none := by
        cases spot with
        | none => rfl
        | some s => simp [World.cell?] at c0; split at c0 <;> simp at c0
      subst hs
      have hb : blk < w.heap.size := by
        false_or_by_contra
        rename_i hge
        have : w.heap[blk]? = none := Array.getElem?_eq_none (by omega)
        simp [World.cell?, this] at c0
      refine ⟨blk, off, rfl, hb, fun j r hj c u hu => ?_⟩
      have hjl : j < len := by
        have := (List.getElem?_eq_some_iff.1 hj).1
        simpa using this
      have hr : r = q j := by
        simp [hjl] at hj
        exact hj.symm
      subst hr
      obtain ⟨_, g2, _⟩ := hq j hjl
      rw [← g2 c u hu]
      congr 1
      rw [add_add]
      unfold Addr.add
      split <;> simp_all <;> omega
    · obtain ⟨i, hi, rfl⟩ := List.mem_map.1 hr
      obtain ⟨g1, _, g3⟩ := hq i (by simpa using hi)
      exact ⟨g1, g3⟩

def IntRows (n : Nat) (rows : List (List Value)) : Prop := ∀ r ∈ rows, r.length = n ∧ ∀ (c : Nat) (v : Value), r[c]? = some v → ∃ a : Int, v = .int .i64 a ∧ (Lit.int .i64 a).wf = true
abbrev Pt := Int × Int
def prow (p : Pt) : List Value := [.int .i64 p.1, .int .i64 p.2]
theorem rows2 : ∀ {rows : List (List Value)}, IntRows 2 rows → ∃ ps : List Pt, rows = ps.map prow
  | [], _ => ⟨[], rfl⟩
  | r :: rows, h => by
    obtain ⟨ps, hps⟩ := rows2 (rows := rows) (fun r hr => h r (List.mem_cons_of_mem _ hr))
    obtain ⟨hl, hc⟩ := h r (List.mem_cons_self ..)
    obtain ⟨a, b, rfl⟩ := cells2 hl hc
    exact ⟨(a, b) :: ps, by rw [hps]; rfl⟩
structure Rep where
  d : Int
  f : Int
  t : Int
  s : Int
def rrow (r : Rep) : List Value := [.int .i64 r.d, .int .i64 r.f, .int .i64 r.t, .int .i64 r.s]
theorem rows4 : ∀ {rows : List (List Value)}, IntRows 4 rows → ∃ rs : List Rep, rows = rs.map rrow
  | [], _ => ⟨[], rfl⟩
  | r :: rows, h => by
    obtain ⟨ps, hps⟩ := rows4 (rows := rows) (fun r hr => h r (List.mem_cons_of_mem _ hr))
    obtain ⟨hl, hc⟩ := h r (List.mem_cons_self ..)
    obtain ⟨a, b, c, d, rfl⟩ := cells4 hl hc
    exact ⟨⟨a, b, c, d⟩ :: ps, by rw [hps]; rfl⟩

end Go.Proofs.Ytgmhelclofnpkaa
