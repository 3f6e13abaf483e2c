/- How a slice of corners that came in is read. -/
import Derived.Test.YtgmhelclofnpkaaOpen
import Derived.Test.YtgmhelclofnpkaaKa
import Derived.LaidLaws
import Derived.LaidHandle
import Derived.Handed
import Derived.SizedLaws
import Derived.ChangeVars
import Derived.JoinedOf
import Derived.OpenShut
import Derived.ShutString
import Derived.Deep.DeepCutAuto
import Derived.Lib.LaidTab
namespace Go.Proofs.Ytgmhelclofnpkaa
open Go.ChangeShapes Go.WideShapes Go.ChangeAt Go.RowKit Go.Deep

theorem slice_len {P : Program} {H : Type} {enc : TypeId × Value → H} {w : World} {base : Nat} {spare : Nat → Bool} {held : Bool} {fuel : Nat} {t e : TypeId} {A : Option Addr} {len cap : Nat} {x : DataW H × List MemPlace}
    (ht : P.underlying t = some (.slice e)) (h : DataW.trod enc P w base spare held fuel t [.slice A len cap] = some x) : len = 0 ∨ ∃ es sp, x.1 = .slice es sp ∧ es.length = len := by
  rcases open_slice ht h with ⟨h1, _⟩ | ⟨a, len', cap', m, n, F, Pl, h1, _, _, _, _, rfl, _⟩
  · cases h1; exact Or.inl rfl
  · cases h1; exact Or.inr ⟨_, _, rfl, by simp⟩
theorem rowsP : ∀ {rows : List (List Value)}, IntRows 2 rows → ∃ xs : List P2, rows = xs.map ptrow
  | [], _ => ⟨[], rfl⟩
  | r :: rows, h => by
    obtain ⟨xs, hxs⟩ := rowsP (rows := rows) (fun r hr => h r (List.mem_cons_of_mem _ hr))
    obtain ⟨hl, hc⟩ := h r (List.mem_cons_self ..)
    match r, hl with
    | [u, v], _ =>
      obtain ⟨a, rfl, _⟩ := hc 0 u rfl
      obtain ⟨b, rfl, _⟩ := hc 1 v rfl
      exact ⟨(a, b) :: xs, by rw [hxs]; rfl⟩
set_option maxRecDepth 100000 in
theorem open_pts {H : Type} {enc : TypeId × Value → H} {w : World} {base base' : Nat} {r : Reach} {spare : Nat → Bool} {held : Bool} {v : Value} {d : DataW H} {ps : List MemPlace}
    (hv : Value.okWide Try.prog w r base' 22 v) (h : DataW.Trod enc Try.prog w base spare held 22 v d ps) :
    ∃ (A : Option Addr) (n cap : Nat) (xs : List P2), v = .slice A n cap ∧ n = xs.length ∧ n ≤ 9223372036854775807 ∧ Rd 2 w A (xs.map ptrow) := by
  obtain ⟨a0, len0, cap0, rfl⟩ := okWide_slice Try.underlying22 hv
  obtain ⟨fuel, hf⟩ := h
  have hf' : DataW.trod enc Try.prog w base spare held fuel 22 [.slice a0 len0 cap0] = some (d, ps) := hf
  obtain ⟨A, n, cap, rows, g, hn, hm, hr, hk⟩ := open_plain_slice (n := 5) Try.underlying22 (by kernel_rfl) (by rw [show Try.prog.cellsOf 53 = 2 by kernel_rfl]; omega) hf'
  rw [show Try.prog.cellsOf 53 = 2 by kernel_rfl] at hr hk
  cases g
  obtain ⟨xs, rfl⟩ := rowsP hk
  exact ⟨a0, len0, cap0, xs, rfl, by rw [hn, List.length_map], by unfold maxLen at hm; omega, hr⟩
end Go.Proofs.Ytgmhelclofnpkaa
