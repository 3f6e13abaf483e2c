/- How a slice of numbers that came in is read. -/
import Derived.Test.YtphcpphmoeiioaaOpenV
namespace Go.Proofs.Ytphcpphmoeiioaa
open Go.ChangeShapes Go.WideShapes Go.ChangeAt Go.RowKit Go.Deep

theorem rows1 : ∀ {rows : List (List Value)}, IntRows 1 rows → ∃ xs : List Int, rows = xs.map irow
  | [], _ => ⟨[], rfl⟩
  | r :: rows, h => by
    obtain ⟨xs, hxs⟩ := rows1 (rows := rows) (fun r hr => h r (List.mem_cons_of_mem _ hr))
    obtain ⟨hl, hc⟩ := h r (List.mem_cons_self ..)
    match r, hl with
    | [u], _ =>
      obtain ⟨a, rfl, _⟩ := hc 0 u rfl
      exact ⟨a :: xs, by rw [hxs]; rfl⟩
set_option maxRecDepth 100000 in
theorem open_ints {H : Type} {enc : TypeId × Value → H} {w : World} {base base' : Nat} {r : Reach} {spare : Nat → Bool} {held : Bool} {v : Value} {d : DataW H} {ps : List MemPlace}
    (hv : Value.okWide Try.prog w r base' 44 v) (h : DataW.Trod enc Try.prog w base spare held 44 v d ps) :
    ∃ (A : Option Addr) (n cap : Nat) (xs : List Int), v = .slice A n cap ∧ RdI w A xs ∧ n = xs.length ∧ n ≤ 9223372036854775807 := by
  obtain ⟨a0, len0, cap0, rfl⟩ := okWide_slice Try.underlying44 hv
  obtain ⟨fuel, hf⟩ := h
  have hf' : DataW.trod enc Try.prog w base spare held fuel 44 [.slice a0 len0 cap0] = some (d, ps) := hf
  obtain ⟨A, n, cap, rows, g, hn, m3, hr, hk⟩ := open_plain_slice (n := 5) Try.underlying44 (by kernel_rfl) (by rw [show Try.prog.cellsOf 3 = 1 by kernel_rfl]; omega) hf'
  rw [show Try.prog.cellsOf 3 = 1 by kernel_rfl] at hr hk
  cases g
  obtain ⟨xs, rfl⟩ := rows1 hk
  exact ⟨a0, len0, cap0, xs, rfl, hr, by rw [hn, List.length_map], by unfold maxLen at m3; omega⟩
end Go.Proofs.Ytphcpphmoeiioaa
