/- Walks: is a sheet valid? -/
import Derived.Test.YtgmhelclofnpkaaGreatUa
namespace Go.Proofs.YtgmhelclofnpkaaGreat
open Go.RowKit

abbrev shV (aL aH lL lH : Int) (A : Option Addr) (n cap : Nat) (wr : Int) : Value := .agg #[.int .i64 aL, .int .i64 aH, .int .i64 lL, .int .i64 lH, .slice A n cap, .int .i64 wr]
def shC (aL aH lL lH : Int) (A : Option Addr) (n cap : Nat) (wr : Int) : List Value := [.int .i64 aL, .int .i64 aH, .int .i64 lL, .int .i64 lH, .slice A n cap, .int .i64 wr]
theorem cBBx {P : Program} {f : FuncId} {args : Array Value} {w : World} {x y : Bool} (h : x = y) (k : Calls P f args w fun e w' => e = .returned (.bool (!x)) ∧ Below w.heap.size w w') : Calls P f args w fun e w' => e = .returned (.bool (!y)) ∧ Below w.heap.size w w' := by subst h; exact k
end Go.Proofs.YtgmhelclofnpkaaGreat
