/- Plain: sheets, their controls, the factors that they allow. -/
import Derived.Test.YtgmhelclofnpkaaPl
namespace Go.Proofs.Ytgmhelclofnpkaa

/-- A control. -/
structure Ct where
  w : Int
  t : Int
  r : Int
  o : Int
namespace Sh
def okSp (lo hi : Int) : Bool := btw lo 900 hi && decide (hi ≤ 1100)
def okCt (c : Ct) : Bool := (decide (c.w = 1) || decide (c.w = 2)) && (btw c.t 1 9999 && (btw c.r 0 9999 && btw c.o 0 9999))
def okSh (aL aH lL lH wr : Int) (cs : List Ct) : Bool := okSp aL aH && (okSp lL lH && (decide (cs.length ≤ 8) && (cs.all okCt && btw wr 0 8)))
def fac (p : P2) (w : Int) : Int := if w = 1 then p.1 else p.2
/-- A control is right with factors. -/
def isR (p : P2) (c : Ct) : Bool := decide (max (c.t * fac p c.w - 1000 * c.r) (-(c.t * fac p c.w - 1000 * c.r)) ≤ 1000 * c.o)
def wrongs (cs : List Ct) (p : P2) : Nat := (cs.filter fun c => !isR p c).length
theorem wrongs_nil (p : P2) : wrongs [] p = 0 := rfl
theorem wrongs_snoc (cs : List Ct) (c : Ct) (p : P2) : wrongs (cs ++ [c]) p = wrongs cs p + (if isR p c = true then 0 else 1) := by
  unfold wrongs
  rw [List.filter_append, List.length_append]
  cases h : isR p c <;> simp [h]
theorem wrongs_le (cs : List Ct) (p : P2) : wrongs cs p ≤ cs.length := List.length_filter_le ..
/-- The first j pairs of the row i of factors. -/
def rowL (aL lL : Int) (i j : Nat) : List P2 := (List.range j).map fun (c : Nat) => (aL + (i : Int), lL + (c : Int))
/-- The first i rows, each of m pairs, and j pairs of the next one. -/
def pairs (aL lL : Int) (m : Nat) : Nat → List P2
  | 0 => []
  | i + 1 => pairs aL lL m i ++ rowL aL lL i m
theorem rowL_succ (aL lL : Int) (i j : Nat) : rowL aL lL i (j + 1) = rowL aL lL i j ++ [(aL + i, lL + j)] := by simp [rowL, List.range_succ]
theorem rowL_len (aL lL : Int) (i j : Nat) : (rowL aL lL i j).length = j := by simp [rowL]
theorem pairs_len (aL lL : Int) (m : Nat) : ∀ i, (pairs aL lL m i).length = i * m
  | 0 => by simp [pairs]
  | i + 1 => by rw [pairs, List.length_append, pairs_len aL lL m i, rowL_len, Nat.succ_mul]
/-- All pairs. -/
def allP (aL aH lL lH : Int) : List P2 := pairs aL lL (lH - lL + 1).toNat (aH - aL + 1).toNat
/-- The truths. -/
def trs (aL aH lL lH wr : Int) (cs : List Ct) : List P2 := (allP aL aH lL lH).filter fun p => decide ((wrongs cs p : Int) ≤ wr)
theorem okSp_iff {lo hi : Int} : okSp lo hi = true ↔ 900 ≤ lo ∧ lo ≤ hi ∧ hi ≤ 1100 := by simp [okSp, btw]; omega
theorem okCt_iff {c : Ct} : okCt c = true ↔ (c.w = 1 ∨ c.w = 2) ∧ (1 ≤ c.t ∧ c.t ≤ 9999) ∧ (0 ≤ c.r ∧ c.r ≤ 9999) ∧ 0 ≤ c.o ∧ c.o ≤ 9999 := by simp [okCt, btw]
/-- The pair is one of both spans. -/
def In (aL aH lL lH : Int) (p : P2) : Prop := (aL ≤ p.1 ∧ p.1 ≤ aH) ∧ lL ≤ p.2 ∧ p.2 ≤ lH
end Sh
end Go.Proofs.Ytgmhelclofnpkaa
