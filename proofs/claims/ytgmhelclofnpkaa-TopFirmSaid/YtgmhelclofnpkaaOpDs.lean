/- How a dispute that came in is read. -/
import Derived.Test.YtgmhelclofnpkaaOpPt
import Derived.Test.YtgmhelclofnpkaaZB
namespace Go.Proofs.Ytgmhelclofnpkaa
open Go.ChangeShapes Go.WideShapes Go.ChangeAt Go.RowKit Go.Deep

theorem rows1 : ∀ {rows : List (List Value)}, IntRows 1 rows → ∃ xs : List Int, rows = xs.map irow
  | [], _ => ⟨[], rfl⟩
  | r :: rows, h => by
    obtain ⟨xs, hxs⟩ := rows1 (rows := rows) (fun r hr => h r (List.mem_cons_of_mem _ hr))
    obtain ⟨hl, hc⟩ := h r (List.mem_cons_self ..)
    match r, hl with
    | [u], _ =>
      obtain ⟨a, rfl, _⟩ := hc 0 u rfl
      exact ⟨a :: xs, by rw [hxs]; rfl⟩
theorem rows5 : ∀ {rows : List (List Value)}, IntRows 5 rows → ∃ xs : List Wk, rows = xs.map wkrow
  | [], _ => ⟨[], rfl⟩
  | r :: rows, h => by
    obtain ⟨xs, hxs⟩ := rows5 (rows := rows) (fun r hr => h r (List.mem_cons_of_mem _ hr))
    obtain ⟨hl, hc⟩ := h r (List.mem_cons_self ..)
    match r, hl with
    | [u0, u1, u2, u3, u4], _ =>
      obtain ⟨a0, rfl, _⟩ := hc 0 u0 rfl
      obtain ⟨a1, rfl, _⟩ := hc 1 u1 rfl
      obtain ⟨a2, rfl, _⟩ := hc 2 u2 rfl
      obtain ⟨a3, rfl, _⟩ := hc 3 u3 rfl
      obtain ⟨a4, rfl, _⟩ := hc 4 u4 rfl
      exact ⟨⟨a0, a1, a2, a3, a4⟩ :: xs, by rw [hxs]; rfl⟩
theorem cells8 {cs : List Value} (hl : cs.length = 8) (h : ∀ (c : Nat) (u : Value), cs[c]? = some u → ∃ a : Int, u = .int .i64 a ∧ (Lit.int .i64 a).wf = true) : ∃ h : Wh, cs = whC h := by
  match cs, hl with
  | [x0, x1, x2, x3, x4, x5, x6, x7], _ =>
    obtain ⟨a0, rfl, _⟩ := h 0 x0 rfl
    obtain ⟨a1, rfl, _⟩ := h 1 x1 rfl
    obtain ⟨a2, rfl, _⟩ := h 2 x2 rfl
    obtain ⟨a3, rfl, _⟩ := h 3 x3 rfl
    obtain ⟨a4, rfl, _⟩ := h 4 x4 rfl
    obtain ⟨a5, rfl, _⟩ := h 5 x5 rfl
    obtain ⟨a6, rfl, _⟩ := h 6 x6 rfl
    obtain ⟨a7, rfl, _⟩ := h 7 x7 rfl
    exact ⟨⟨a0, a1, a2, a3, a4, a5, a6, a7⟩, rfl⟩
set_option maxRecDepth 100000 in
theorem open_disp {H : Type} {enc : TypeId × Value → H} {w : World} {base base' : Nat} {r : Reach} {spare : Nat → Bool} {held : Bool} {v : Value} {d : DataW H} {ps : List MemPlace}
    (hv : Value.okWide Try.prog w r base' 56 v) (h : DataW.Trod enc Try.prog w base spare held 56 v d ps) :
    ∃ (A B C : Option Addr) (cA cB cC : Nat) (x : Ds), v = dsV A B C cA cB cC x ∧ Rd 2 w A (x.P.map ptrow) ∧ RdI w B x.O ∧ Rd 5 w C (x.l.map wkrow) ∧ (x.P.length ≤ 9223372036854775807 ∧ x.O.length ≤ 9223372036854775807 ∧ x.l.length ≤ 9223372036854775807) := by
  obtain ⟨cs, rfl, hsz⟩ := okWide_struct Try.underlying56 hv
  obtain ⟨fuel, hf⟩ := h
  obtain ⟨xs, m, _, hd, hlen, hxs, hff⟩ := DataW.trod_struct Try.underlying56 hf
  have hl : cs.toList.length = 12 := Eq.trans (b := Try.prog.cellsOf 56) hlen (by kernel_rfl)
  have hxl : xs.length = 5 := hxs
  have hc : cs = cs.toList.toArray := by simp
  rw [hc]
  have f0 : DataW.trod enc Try.prog w base spare held m 22 (List.take (Try.prog.cellsOf 22) (List.drop 0 cs.toList)) = xs[0]? := hff 0 _ rfl
  have f1 : DataW.trod enc Try.prog w base spare held m 38 (List.take (Try.prog.cellsOf 38) (List.drop 1 cs.toList)) = xs[1]? := hff 1 _ rfl
  have f2 : DataW.trod enc Try.prog w base spare held m 3 (List.take (Try.prog.cellsOf 3) (List.drop 2 cs.toList)) = xs[2]? := hff 2 _ rfl
  have f3 : DataW.trod enc Try.prog w base spare held m 34 (List.take (Try.prog.cellsOf 34) (List.drop 3 cs.toList)) = xs[3]? := hff 3 _ rfl
  have f4 : DataW.trod enc Try.prog w base spare held m 37 (List.take (Try.prog.cellsOf 37) (List.drop 11 cs.toList)) = xs[4]? := hff 4 _ rfl
  clear hf hff hc hlen hsz hv hd
  generalize cs.toList = l at *
  match l, hl with
  | [a0, a1, a2, a3, a4, a5, a6, a7, a8, a9, a10, a11], _ =>
    have e0 : Try.prog.cellsOf 22 = 1 := by kernel_rfl
    have e1 : Try.prog.cellsOf 38 = 1 := by kernel_rfl
    have e2 : Try.prog.cellsOf 3 = 1 := by kernel_rfl
    have e3 : Try.prog.cellsOf 34 = 8 := by kernel_rfl
    have e4 : Try.prog.cellsOf 37 = 1 := by kernel_rfl
    (try dsimp only at f0 f1 f2 f3 f4)
    rw [e0] at f0
    rw [e1] at f1
    rw [e2] at f2
    rw [e3] at f3
    rw [e4] at f4
    simp only [List.drop_zero, List.drop_succ_cons, List.take_succ_cons, List.take_zero] at f0 f1 f2 f3 f4
    obtain ⟨x0, z0⟩ : ∃ x, xs[0]? = some x := ⟨xs[0]'(by omega), by simp⟩
    obtain ⟨x1, z1⟩ : ∃ x, xs[1]? = some x := ⟨xs[1]'(by omega), by simp⟩
    obtain ⟨x2, z2⟩ : ∃ x, xs[2]? = some x := ⟨xs[2]'(by omega), by simp⟩
    obtain ⟨x3, z3⟩ : ∃ x, xs[3]? = some x := ⟨xs[3]'(by omega), by simp⟩
    obtain ⟨x4, z4⟩ : ∃ x, xs[4]? = some x := ⟨xs[4]'(by omega), by simp⟩
    rw [z0] at f0
    rw [z1] at f1
    rw [z2] at f2
    rw [z3] at f3
    rw [z4] at f4
    obtain ⟨A, n, cap, rows, g0, h0, m0, r0, k0⟩ := open_plain_slice (n := 5) Try.underlying22 (by kernel_rfl) (by rw [show Try.prog.cellsOf 53 = 2 by kernel_rfl]; omega) f0
    obtain ⟨B, nB, capB, rowsB, g1, h1, m1, r1, k1⟩ := open_plain_slice (n := 5) Try.underlying38 (by kernel_rfl) (by rw [show Try.prog.cellsOf 3 = 1 by kernel_rfl]; omega) f1
    obtain ⟨C, nC, capC, rowsC, g4, h4, m4, r4, k4⟩ := open_plain_slice (n := 5) Try.underlying37 (by kernel_rfl) (by rw [show Try.prog.cellsOf 36 = 5 by kernel_rfl]; omega) f4
    obtain ⟨u, g2, _, _⟩ := DataW.trod_int Try.underlying3 f2
    obtain ⟨h, g3⟩ := cells8 rfl (fun c v hv => plain_cells (P := Try.prog) 5 34 m _ _ (by kernel_rfl) f3 c v hv)
    rw [show Try.prog.cellsOf 53 = 2 by kernel_rfl] at r0 k0
    rw [show Try.prog.cellsOf 3 = 1 by kernel_rfl] at r1 k1
    rw [show Try.prog.cellsOf 36 = 5 by kernel_rfl] at r4 k4
    obtain ⟨P, hk⟩ := rowsP k0
    obtain ⟨O, hk1⟩ := rows1 k1
    obtain ⟨L, hk4⟩ := rows5 k4
    subst hk hk1 hk4
    simp only [List.length_map] at h0 h1 h4
    subst h0 h1 h4
    cases g0; cases g1; cases g2; cases g4
    simp only [whC, List.cons.injEq] at g3
    obtain ⟨rfl, rfl, rfl, rfl, rfl, rfl, rfl, rfl, _⟩ := g3
    unfold maxLen at m0 m1 m4
    exact ⟨A, B, C, cap, capB, capC, ⟨P, O, u, h, L⟩, rfl, r0, r1, r4, by simp only; omega⟩
end Go.Proofs.Ytgmhelclofnpkaa
