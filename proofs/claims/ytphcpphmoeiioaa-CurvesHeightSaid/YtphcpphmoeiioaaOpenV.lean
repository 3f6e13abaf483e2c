/- The frame of the curves' laws: how a curve is read. -/
import Derived.Test.YtphcpphmoeiioaaOpen
import Derived.Test.YtphcpphmoeiioaaVB
import Derived.Test.YtphcpphmoeiioaaRows
namespace Go.Proofs.Ytphcpphmoeiioaa
open Go.ChangeShapes Go.WideShapes Go.ChangeAt Go.RowKit Go.Deep

theorem rows3 : ∀ {rows : List (List Value)}, IntRows 3 rows → ∃ ks : List Kn, rows = ks.map krow
  | [], _ => ⟨[], rfl⟩
  | r :: rows, h => by
    obtain ⟨ps, hps⟩ := rows3 (rows := rows) (fun r hr => h r (List.mem_cons_of_mem _ hr))
    obtain ⟨hl, hc⟩ := h r (List.mem_cons_self ..)
    obtain ⟨a, b, c, rfl⟩ := cells3 hl hc
    exact ⟨⟨a, b, c⟩ :: ps, by rw [hps]; rfl⟩
set_option maxRecDepth 100000 in
/-- A curve that came in. -/
theorem open_curve {H : Type} {enc : TypeId × Value → H} {w : World} {base base' : Nat} {r : Reach} {spare : Nat → Bool} {held : Bool} {v : Value} {d : DataW H} {ps : List MemPlace}
    (hv : Value.okWide Try.prog w r base' 26 v) (h : DataW.Trod enc Try.prog w base spare held 26 v d ps) :
    ∃ (L sl rl rh wg : Int) (A : Option Addr) (n cap : Nat) (ks : List Kn), v = .agg #[.int .i64 L, .int .i64 sl, .int .i64 rl, .int .i64 rh, .slice A n cap, .int .i64 wg] ∧ Rd 3 w A (ks.map krow) ∧ n = ks.length ∧ n ≤ 9223372036854775807 := by
  obtain ⟨cs, rfl, hsz⟩ := okWide_struct Try.underlying26 hv
  obtain ⟨fuel, hf⟩ := h
  obtain ⟨xs, m, _, hd, hlen, hxs, hff⟩ := DataW.trod_struct Try.underlying26 hf
  have hl : cs.toList.length = 6 := Eq.trans (b := Try.prog.cellsOf 26) hlen (by kernel_rfl)
  have hxl : xs.length = 5 := hxs
  have hc : cs = cs.toList.toArray := by simp
  rw [hc]
  have f0 : DataW.trod enc Try.prog w base spare held m 3 (List.take (Try.prog.cellsOf 3) (List.drop 0 cs.toList)) = xs[0]? := hff 0 _ rfl
  have f1 : DataW.trod enc Try.prog w base spare held m 3 (List.take (Try.prog.cellsOf 3) (List.drop 1 cs.toList)) = xs[1]? := hff 1 _ rfl
  have f2 : DataW.trod enc Try.prog w base spare held m 23 (List.take (Try.prog.cellsOf 23) (List.drop 2 cs.toList)) = xs[2]? := hff 2 _ rfl
  have f3 : DataW.trod enc Try.prog w base spare held m 24 (List.take (Try.prog.cellsOf 24) (List.drop 4 cs.toList)) = xs[3]? := hff 3 _ rfl
  have f4 : DataW.trod enc Try.prog w base spare held m 3 (List.take (Try.prog.cellsOf 3) (List.drop 5 cs.toList)) = xs[4]? := hff 4 _ rfl
  clear hf hff hc hlen hsz hv hd
  generalize cs.toList = l at *
  match l, hl with
  | [a, b, c, d, e, g], _ =>
    have e3 : Try.prog.cellsOf 3 = 1 := by kernel_rfl
    have e23 : Try.prog.cellsOf 23 = 2 := by kernel_rfl
    have e24 : Try.prog.cellsOf 24 = 1 := by kernel_rfl
    (try dsimp only at f0 f1 f2 f3 f4)
    rw [e3] at f0 f1 f4
    rw [e23] at f2
    rw [e24] at f3
    simp only [List.drop_zero, List.drop_succ_cons, List.take_succ_cons, List.take_zero] at f0 f1 f2 f3 f4
    obtain ⟨x0, z0⟩ : ∃ x, xs[0]? = some x := ⟨xs[0]'(by omega), by simp⟩
    obtain ⟨x1, z1⟩ : ∃ x, xs[1]? = some x := ⟨xs[1]'(by omega), by simp⟩
    obtain ⟨x2, z2⟩ : ∃ x, xs[2]? = some x := ⟨xs[2]'(by omega), by simp⟩
    obtain ⟨x3, z3⟩ : ∃ x, xs[3]? = some x := ⟨xs[3]'(by omega), by simp⟩
    obtain ⟨x4, z4⟩ : ∃ x, xs[4]? = some x := ⟨xs[4]'(by omega), by simp⟩
    rw [z0] at f0
    rw [z1] at f1
    rw [z2] at f2
    rw [z3] at f3
    rw [z4] at f4
    obtain ⟨L, g0, _, _⟩ := DataW.trod_int Try.underlying3 f0
    obtain ⟨sl, g1, _, _⟩ := DataW.trod_int Try.underlying3 f1
    obtain ⟨rl, rh, g2⟩ := cells2 rfl (fun c v hv => plain_cells (P := Try.prog) 5 23 m _ _ (by kernel_rfl) f2 c v hv)
    obtain ⟨A, n, cap, rows, g3, h3, m3, r3, k3⟩ := open_plain_slice (n := 5) Try.underlying24 (by kernel_rfl) (by rw [show Try.prog.cellsOf 51 = 3 by kernel_rfl]; omega) f3
    obtain ⟨wg, g4, _, _⟩ := DataW.trod_int Try.underlying3 f4
    rw [show Try.prog.cellsOf 51 = 3 by kernel_rfl] at r3 k3
    obtain ⟨ks, hk⟩ := rows3 k3
    cases g0; cases g1; cases g2; cases g3; cases g4
    exact ⟨L, sl, rl, rh, wg, A, n, cap, ks, rfl, hk ▸ r3, by rw [h3, hk, List.length_map], by unfold maxLen at m3; omega⟩
end Go.Proofs.Ytphcpphmoeiioaa
