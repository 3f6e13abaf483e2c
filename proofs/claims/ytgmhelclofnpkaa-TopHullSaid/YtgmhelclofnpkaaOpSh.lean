/- How a sheet that came in is read. -/
import Derived.Test.YtgmhelclofnpkaaOpPt
import Derived.Test.YtgmhelclofnpkaaUb
namespace Go.Proofs.Ytgmhelclofnpkaa
open Go.ChangeShapes Go.WideShapes Go.ChangeAt Go.RowKit Go.Deep

theorem rows4S : ∀ {rows : List (List Value)}, IntRows 4 rows → ∃ xs : List Ct, rows = xs.map ctrow
  | [], _ => ⟨[], rfl⟩
  | r :: rows, h => by
    obtain ⟨xs, hxs⟩ := rows4S (rows := rows) (fun r hr => h r (List.mem_cons_of_mem _ hr))
    obtain ⟨hl, hc⟩ := h r (List.mem_cons_self ..)
    match r, hl with
    | [u0, u1, u2, u3], _ =>
      obtain ⟨a0, rfl, _⟩ := hc 0 u0 rfl
      obtain ⟨a1, rfl, _⟩ := hc 1 u1 rfl
      obtain ⟨a2, rfl, _⟩ := hc 2 u2 rfl
      obtain ⟨a3, rfl, _⟩ := hc 3 u3 rfl
      exact ⟨⟨a0, a1, a2, a3⟩ :: xs, by rw [hxs]; rfl⟩
theorem cells2S {cs : List Value} (hl : cs.length = 2) (h : ∀ (c : Nat) (u : Value), cs[c]? = some u → ∃ a : Int, u = .int .i64 a ∧ (Lit.int .i64 a).wf = true) : ∃ a b : Int, cs = [.int .i64 a, .int .i64 b] := by
  match cs, hl with
  | [x0, x1], _ =>
    obtain ⟨a0, rfl, _⟩ := h 0 x0 rfl
    obtain ⟨a1, rfl, _⟩ := h 1 x1 rfl
    exact ⟨a0, a1, rfl⟩
set_option maxRecDepth 100000 in
theorem open_sheet {H : Type} {enc : TypeId × Value → H} {w : World} {base base' : Nat} {r : Reach} {spare : Nat → Bool} {held : Bool} {v : Value} {d : DataW H} {ps : List MemPlace}
    (hv : Value.okWide Try.prog w r base' 44 v) (h : DataW.Trod enc Try.prog w base spare held 44 v d ps) :
    ∃ (aL aH lL lH : Int) (A : Option Addr) (n cap : Nat) (wq : Int) (cs : List Ct), v = shV aL aH lL lH A n cap wq ∧ n = cs.length ∧ n ≤ 9223372036854775807 ∧ Rd 4 w A (cs.map ctrow) := by
  obtain ⟨cs, rfl, hsz⟩ := okWide_struct Try.underlying44 hv
  obtain ⟨fuel, hf⟩ := h
  obtain ⟨xs, m, _, hd, hlen, hxs, hff⟩ := DataW.trod_struct Try.underlying44 hf
  have hl : cs.toList.length = 6 := Eq.trans (b := Try.prog.cellsOf 44) hlen (by kernel_rfl)
  have hxl : xs.length = 4 := hxs
  have hc : cs = cs.toList.toArray := by simp
  rw [hc]
  have f0 : DataW.trod enc Try.prog w base spare held m 32 (List.take (Try.prog.cellsOf 32) (List.drop 0 cs.toList)) = xs[0]? := hff 0 _ rfl
  have f1 : DataW.trod enc Try.prog w base spare held m 32 (List.take (Try.prog.cellsOf 32) (List.drop 2 cs.toList)) = xs[1]? := hff 1 _ rfl
  have f2 : DataW.trod enc Try.prog w base spare held m 42 (List.take (Try.prog.cellsOf 42) (List.drop 4 cs.toList)) = xs[2]? := hff 2 _ rfl
  have f3 : DataW.trod enc Try.prog w base spare held m 3 (List.take (Try.prog.cellsOf 3) (List.drop 5 cs.toList)) = xs[3]? := hff 3 _ rfl
  clear hf hff hc hlen hsz hv hd
  generalize cs.toList = l at *
  match l, hl with
  | [a0, a1, a2, a3, a4, a5], _ =>
    have e0 : Try.prog.cellsOf 32 = 2 := by kernel_rfl
    have e1 : Try.prog.cellsOf 42 = 1 := by kernel_rfl
    have e2 : Try.prog.cellsOf 3 = 1 := by kernel_rfl
    (try dsimp only at f0 f1 f2 f3)
    rw [e0] at f0 f1
    rw [e1] at f2
    rw [e2] at f3
    simp only [List.drop_zero, List.drop_succ_cons, List.take_succ_cons, List.take_zero] at f0 f1 f2 f3
    obtain ⟨x0, z0⟩ : ∃ x, xs[0]? = some x := ⟨xs[0]'(by omega), by simp⟩
    obtain ⟨x1, z1⟩ : ∃ x, xs[1]? = some x := ⟨xs[1]'(by omega), by simp⟩
    obtain ⟨x2, z2⟩ : ∃ x, xs[2]? = some x := ⟨xs[2]'(by omega), by simp⟩
    obtain ⟨x3, z3⟩ : ∃ x, xs[3]? = some x := ⟨xs[3]'(by omega), by simp⟩
    rw [z0] at f0
    rw [z1] at f1
    rw [z2] at f2
    rw [z3] at f3
    obtain ⟨A, n, cap, rows, g2, h2, m2, r2, k2⟩ := open_plain_slice (n := 5) Try.underlying42 (by kernel_rfl) (by rw [show Try.prog.cellsOf 93 = 4 by kernel_rfl]; omega) f2
    obtain ⟨u, g3, _, _⟩ := DataW.trod_int Try.underlying3 f3
    obtain ⟨aL, aH, g0⟩ := cells2S rfl (fun c v hv => plain_cells (P := Try.prog) 5 32 m _ _ (by kernel_rfl) f0 c v hv)
    obtain ⟨lL, lH, g1⟩ := cells2S rfl (fun c v hv => plain_cells (P := Try.prog) 5 32 m _ _ (by kernel_rfl) f1 c v hv)
    rw [show Try.prog.cellsOf 93 = 4 by kernel_rfl] at r2 k2
    obtain ⟨C, hk⟩ := rows4S k2
    subst hk
    simp only [List.length_map] at h2
    subst h2
    cases g0; cases g1; cases g2; cases g3
    unfold maxLen at m2
    exact ⟨aL, aH, lL, lH, A, C.length, cap, u, C, rfl, rfl, by omega, r2⟩
end Go.Proofs.Ytgmhelclofnpkaa
