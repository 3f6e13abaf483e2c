/- Walks of the leaf functions of the sheets: numbers, spans, controls. -/
import Derived.Test.YtgmhelclofnpkaaGreatKa
import Derived.Test.YtgmhelclofnpkaaGreatKc
import Derived.Test.YtgmhelclofnpkaaGreatUp
namespace Go.Proofs.YtgmhelclofnpkaaGreat
open Go.RowKit

def ctrow (c : Ct) : List Value := [.int .i64 c.w, .int .i64 c.t, .int .i64 c.r, .int .i64 c.o]
theorem rd_ct {w : World} {A : Option Addr} {cs : List Ct} (h : Rd 4 w A (cs.map ctrow)) {i : Nat} {c : Ct} (hi : cs[i]? = some c) :
    ∃ b off, A = some ⟨b, off, none⟩ ∧ b < w.heap.size ∧ w.cell? ⟨b, off + i * 4, none⟩ = some (.int .i64 c.w) ∧ w.cell? ⟨b, off + i * 4 + 1, none⟩ = some (.int .i64 c.t) ∧ w.cell? ⟨b, off + i * 4 + 2, none⟩ = some (.int .i64 c.r) ∧ w.cell? ⟨b, off + i * 4 + 3, none⟩ = some (.int .i64 c.o) := by
  obtain ⟨b, off, e, hb, hc⟩ := Rd.elem h (i := i) (r := ctrow c) (by simp [hi])
  exact ⟨b, off, e, hb, hc 0 _ rfl, hc 1 _ rfl, hc 2 _ rfl, hc 3 _ rfl⟩
theorem cPBx {P : Program} {f : FuncId} {args : Array Value} {w : World} {x y : Bool} (h : x = y) (k : Calls P f args w fun e w' => e = .returned (.bool x) ∧ w = w') : Calls P f args w fun e w' => e = .returned (.bool y) ∧ w = w' := by subst h; exact k
section
attribute [local go_sem ↓] mn2_run mx2_run
end
end Go.Proofs.YtgmhelclofnpkaaGreat
