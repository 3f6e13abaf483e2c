/- Plain: wheels, their walks, truths. -/
import Derived.Test.YtgmhelclofnpkaaUp
namespace Go.Proofs.Ytgmhelclofnpkaa

/-- A wheel. -/
structure Wh where
  full : Int
  read : Int
  slip : Int
  skew : Int
  circ : Int
  lo : Int
  hi : Int
  wrong : Int
/-- A walk. -/
structure Wk where
  s : Int
  sd : Int
  ins : Int
  st : Int
  en : Int
namespace Wl
/-- A wheel is valid. -/
structure Ok (h : Wh) : Prop where
  full : 10 ≤ h.full ∧ h.full ≤ 10000
  read : 0 ≤ h.read ∧ h.read ≤ 20
  slip : 0 ≤ h.slip ∧ h.slip ≤ 20
  skew : 0 ≤ h.skew ∧ h.skew ≤ 20
  circ : 0 ≤ h.circ ∧ h.circ ≤ 9999
  lo : 0 ≤ h.lo ∧ h.lo ≤ h.hi
  hi : h.hi ≤ 9999
  wrong : 0 ≤ h.wrong ∧ h.wrong ≤ 8
/-- A walk is valid. -/
structure OkK (h : Wh) (x : Wk) : Prop where
  s : x.s = 1 ∨ x.s = -1
  sd : x.sd = 1 ∨ x.sd = -1
  ins : 0 ≤ x.ins ∧ x.ins ≤ 1
  st : 0 ≤ x.st ∧ x.st ≤ h.full - 1
  en : 0 ≤ x.en ∧ x.en ≤ h.full - 1
def rollV (h : Wh) (x : Wk) (t : P2) : Int := x.s * (t.1 - x.ins * h.circ) + x.sd * t.2
def lowV (h : Wh) (x : Wk) : Int := if 0 < x.s then -2 * h.read - h.slip else -2 * h.read
def highV (h : Wh) (x : Wk) : Int := if 0 < x.s then 2 * h.read else 2 * h.read + h.slip
/-- A number differs from one of a span by a multiple. -/
def turnsB (full n lo hi : Int) : Bool := decide ((n - lo) % full ≤ hi - lo)
def rightB (h : Wh) (x : Wk) (t : P2) : Bool := turnsB h.full (x.en - x.st - rollV h x t) (lowV h x) (highV h x)
def wrongsN (h : Wh) (l : List Wk) (t : P2) : Nat := (l.filter fun x => !rightB h x t).length
theorem wrongsN_snoc (h : Wh) (l : List Wk) (x : Wk) (t : P2) : wrongsN h (l ++ [x]) t = wrongsN h l t + (if rightB h x t = true then 0 else 1) := by
  unfold wrongsN
  rw [List.filter_append, List.length_append]
  cases e : rightB h x t <;> simp [e]
theorem wrongsN_le (h : Wh) (l : List Wk) (t : P2) : wrongsN h l t ≤ l.length := List.length_filter_le ..
/-- The truths. -/
def trs (h : Wh) (l : List Wk) : List P2 := (Sh.allP h.lo h.hi (-h.skew) h.skew).filter fun t => decide ((wrongsN h l t : Int) ≤ h.wrong)
end Wl
end Go.Proofs.Ytgmhelclofnpkaa
