/- Plain: points, sides, polygons as the program tests them. -/
import Derived.Test.YtgmhelclofnpkaaPureB
namespace Go.Proofs.Ytgmhelclofnpkaa

abbrev P2 := Int × Int
namespace Pl
def isP (p : P2) : Bool := btw p.1 (-200) 200 && btw p.2 (-200) 200
theorem isP_iff {p : P2} : isP p = true ↔ (-200 ≤ p.1 ∧ p.1 ≤ 200) ∧ (-200 ≤ p.2 ∧ p.2 ≤ 200) := by simp [isP, btw]
def turn (a b c : P2) : Int := (b.1 - a.1) * (c.2 - a.2) - (b.2 - a.2) * (c.1 - a.1)
theorem mul_bd {a b A B : Int} (ha : -A ≤ a ∧ a ≤ A) (hb : -B ≤ b ∧ b ≤ B) : -(A * B) ≤ a * b ∧ a * b ≤ A * B := by
  have hA : 0 ≤ A := by omega
  have hB : 0 ≤ B := by omega
  have h1 : (a * b).natAbs ≤ (A * B).natAbs := by
    rw [Int.natAbs_mul, Int.natAbs_mul]
    exact Nat.mul_le_mul (by omega) (by omega)
  have h2 : 0 ≤ A * B := Int.mul_nonneg hA hB
  omega
theorem turn_bd {a b c : P2} (ha : isP a = true) (hb : isP b = true) (hc : isP c = true) : (-160000 ≤ (b.1 - a.1) * (c.2 - a.2) ∧ (b.1 - a.1) * (c.2 - a.2) ≤ 160000) ∧ (-160000 ≤ (b.2 - a.2) * (c.1 - a.1) ∧ (b.2 - a.2) * (c.1 - a.1) ≤ 160000) := by
  have h1 := isP_iff.1 ha
  have h2 := isP_iff.1 hb
  have h3 := isP_iff.1 hc
  have e1 := mul_bd (a := b.1 - a.1) (b := c.2 - a.2) (A := 400) (B := 400) (by omega) (by omega)
  have e2 := mul_bd (a := b.2 - a.2) (b := c.1 - a.1) (A := 400) (B := 400) (by omega) (by omega)
  omega
theorem turn_bd' {a b c : P2} (ha : isP a = true) (hb : isP b = true) (hc : isP c = true) : -320000 ≤ turn a b c ∧ turn a b c ≤ 320000 := by
  have := turn_bd ha hb hc
  unfold turn; omega
/-- A point is on a side. -/
def has (a b p : P2) : Bool := decide (turn a b p = 0) && (btw p.1 (min a.1 b.1) (max a.1 b.1) && btw p.2 (min a.2 b.2) (max a.2 b.2))
/-- Two points are strictly on both sides of a line. -/
def apart (a b p q : P2) : Bool := (decide (turn a b p < 0) && decide (0 < turn a b q)) || (decide (0 < turn a b p) && decide (turn a b q < 0))
/-- Two sides have a point in common. -/
def meets (a b c d : P2) : Bool := has a b c || (has a b d || (has c d a || (has c d b || (apart a b c d && apart c d a b))))
def at' (ps : List P2) (i : Nat) : P2 := ps.getD i (0, 0)
/-- The corner behind a corner. -/
def nx (ps : List P2) (i : Nat) : P2 := at' ps ((i + 1) % ps.length)
/-- Two sides have a point that they should not have. -/
def bad (ps : List P2) (i k : Nat) : Bool :=
  if i = k then false
  else if k = (i + 1) % ps.length then has (at' ps i) (nx ps i) (nx ps k) || has (at' ps k) (nx ps k) (at' ps i)
  else if i = (k + 1) % ps.length then false
  else meets (at' ps i) (nx ps i) (at' ps k) (nx ps k)
def simple (ps : List P2) : Bool := (List.range ps.length).all fun i => (List.range ps.length).all fun k => !bad ps i k
theorem simple_iff {ps : List P2} : simple ps = true ↔ ∀ i k, i < ps.length → k < ps.length → bad ps i k = false := by
  simp [simple, List.all_eq_true]
  exact ⟨fun h i k hi hk => h i hi k hk, fun h i hi k hk => h i k hi hk⟩
theorem simple_no {ps : List P2} {i k : Nat} (hi : i < ps.length) (hk : k < ps.length) (h : bad ps i k = true) : simple ps = false := by
  cases e : simple ps
  · rfl
  · rw [simple_iff.1 e i k hi hk] at h; cases h
/-- A corner is there twice. -/
def dup (ps : List P2) : Bool := (List.range ps.length).any fun i => (ps.take i).contains (at' ps i)
/-- A polygon is valid. -/
def ok (ps : List P2) : Bool := (btw ps.length 3 10 && ps.all isP) && (!dup ps && simple ps)
def cross (a b : P2) : Int := a.1 * b.2 - a.2 * b.1
def sumTo (ps : List P2) : Nat → Int
  | 0 => 0
  | i + 1 => sumTo ps i + cross (at' ps i) (nx ps i)
/-- Twice the area. -/
def area (ps : List P2) : Int := sumTo ps ps.length
theorem at_mem {ps : List P2} {i : Nat} (hi : i < ps.length) : at' ps i ∈ ps := by
  unfold at'
  rw [List.getD_eq_getElem?_getD, List.getElem?_eq_getElem hi]
  exact List.getElem_mem hi
theorem at_isP {ps : List P2} (h : ps.all isP = true) {i : Nat} (hi : i < ps.length) : isP (at' ps i) = true := List.all_eq_true.1 h _ (at_mem hi)
theorem nx_isP {ps : List P2} (h : ps.all isP = true) {i : Nat} (hi : i < ps.length) : isP (nx ps i) = true := at_isP h (Nat.mod_lt _ (by omega))
theorem cross_bd {a b : P2} (ha : isP a = true) (hb : isP b = true) : (-40000 ≤ a.1 * b.2 ∧ a.1 * b.2 ≤ 40000) ∧ (-40000 ≤ a.2 * b.1 ∧ a.2 * b.1 ≤ 40000) := by
  have h1 := isP_iff.1 ha
  have h2 := isP_iff.1 hb
  have e1 := mul_bd (a := a.1) (b := b.2) (A := 200) (B := 200) (by omega) (by omega)
  have e2 := mul_bd (a := a.2) (b := b.1) (A := 200) (B := 200) (by omega) (by omega)
  omega
theorem sumTo_bd {ps : List P2} (h : ps.all isP = true) : ∀ k, k ≤ ps.length → -80000 * (k : Int) ≤ sumTo ps k ∧ sumTo ps k ≤ 80000 * (k : Int)
  | 0, _ => by simp [sumTo]
  | k + 1, hk => by
    have ih := sumTo_bd h k (by omega)
    have := cross_bd (at_isP h (i := k) (by omega)) (nx_isP h (i := k) (by omega))
    simp only [sumTo, cross]
    omega
end Pl
end Go.Proofs.Ytgmhelclofnpkaa
