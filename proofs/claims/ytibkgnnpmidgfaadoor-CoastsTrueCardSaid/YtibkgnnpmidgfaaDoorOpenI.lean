/- How a slice of numbers that came in is read. -/
import Derived.Test.YtibkgnnpmidgfaaDoorOpenC
namespace Go.Proofs.YtibkgnnpmidgfaaDoor
open Go.ChangeShapes Go.WideShapes Go.ChangeAt Go.RowKit Go.Deep Go.Shelf

theorem rows1 : ∀ {rows : List (List Value)}, IntRows 1 rows → ∃ xs : List Int, rows = xs.map irow
  | [], _ => ⟨[], rfl⟩
  | r :: rows, h => by
    obtain ⟨xs, hxs⟩ := rows1 (rows := rows) (fun r hr => h r (List.mem_cons_of_mem _ hr))
    obtain ⟨hl, hc⟩ := h r (List.mem_cons_self ..)
    match r, hl with
    | [u], _ =>
      obtain ⟨a, rfl, _⟩ := hc 0 u rfl
      exact ⟨a :: xs, by rw [hxs]; rfl⟩
set_option maxRecDepth 100000 in
theorem open_ints {H : Type} {enc : TypeId × Value → H} {w : World} {base base' : Nat} {r : Reach} {spare : Nat → Bool} {held : Bool} {v : Value} {d : DataW H} {ps : List MemPlace}
    (hv : Value.okWide Tryd.prog w r base' 46 v) (h : DataW.Trod enc Tryd.prog w base spare held 46 v d ps) (hs : ∀ k ∈ d.weights Tryd.prog 46, k ≤ reachBytes) :
    ∃ (A : Option Addr) (n cap : Nat) (xs : List Int), v = .slice A n cap ∧ n = xs.length ∧ n ≤ 140737488355328 ∧ RdI w A xs := by
  obtain ⟨a0, len0, cap0, rfl⟩ := okWide_slice Tryd.underlying46 hv
  obtain ⟨fuel, hf⟩ := h
  have hf' : DataW.trod enc Tryd.prog w base spare held fuel 46 [.slice a0 len0 cap0] = some (d, ps) := hf
  have h1 := slice_len Tryd.underlying46 hf'
  obtain ⟨A, n, cap, rows, g, hn, _, hr, hk⟩ := open_plain_slice (n := 5) Tryd.underlying46 (by kernel_rfl) (by rw [show Tryd.prog.cellsOf 3 = 1 by kernel_rfl]; omega) hf'
  rw [show Tryd.prog.cellsOf 3 = 1 by kernel_rfl] at hr hk
  cases g
  obtain ⟨xs, rfl⟩ := rows1 hk
  refine ⟨a0, len0, cap0, xs, rfl, by rw [hn, List.length_map], ?_, hr⟩
  rcases h1 with h1 | ⟨es, sp, h1, h2⟩
  · omega
  · dsimp only at h1
    subst h1
    have h3 := hs ((es.length + sp.length) * Tryd.prog.bytesOf 3) (by simp [DataW.weights, Tryd.underlying46])
    rw [show Tryd.prog.bytesOf 3 = 8 by kernel_rfl] at h3
    have h4 := reachBytes_lt
    have h5 : (2 : Nat) ^ 47 = 140737488355328 := by decide
    omega

end Go.Proofs.YtibkgnnpmidgfaaDoor
