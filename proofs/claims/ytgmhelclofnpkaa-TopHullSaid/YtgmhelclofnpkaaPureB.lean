/- Plain mathematics: small words on numbers. -/
import Derived.Lib.Hide
namespace Go.Proofs.Ytgmhelclofnpkaa

def btw (n low high : Int) : Bool := decide (low ≤ n) && decide (n ≤ high)
theorem btw_t {n lo hi : Int} (h : lo ≤ n) : btw n lo hi = decide (n ≤ hi) := by simp [btw, h]
theorem btw_f {n lo hi : Int} (h : n < lo) : btw n lo hi = false := by simp [btw]; omega
theorem btw_iff {n lo hi : Int} : btw n lo hi = true ↔ lo ≤ n ∧ n ≤ hi := by simp [btw]
theorem btw_no {n lo hi : Int} : btw n lo hi = false ↔ ¬ (lo ≤ n ∧ n ≤ hi) := by rw [← btw_iff, Bool.not_eq_true]

end Go.Proofs.Ytgmhelclofnpkaa
