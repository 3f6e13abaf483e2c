/- How a track, and elbows with a reading, that came in are read. -/
import Derived.Test.YtgmhelclofnpkaaGreatOpPt
import Derived.Test.YtgmhelclofnpkaaGreatInD
namespace Go.Proofs.YtgmhelclofnpkaaGreat
open Go.ChangeShapes Go.WideShapes Go.ChangeAt Go.RowKit Go.Deep

theorem rows1 : ∀ {rows : List (List Value)}, IntRows 1 rows → ∃ xs : List Int, rows = xs.map irow
  | [], _ => ⟨[], rfl⟩
  | r :: rows, h => by
    obtain ⟨xs, hxs⟩ := rows1 (rows := rows) (fun r hr => h r (List.mem_cons_of_mem _ hr))
    obtain ⟨hl, hc⟩ := h r (List.mem_cons_self ..)
    match r, hl with
    | [u], _ =>
      obtain ⟨a, rfl, _⟩ := hc 0 u rfl
      exact ⟨a :: xs, by rw [hxs]; rfl⟩
set_option maxRecDepth 100000 in
theorem open_track {H : Type} {enc : TypeId × Value → H} {w : World} {base base' : Nat} {r : Reach} {spare : Nat → Bool} {held : Bool} {v : Value} {d : DataW H} {ps : List MemPlace}
    (hv : Value.okWide Tryz.prog w r base' 26 v) (h : DataW.Trod enc Tryz.prog w base spare held 26 v d ps) :
    ∃ (A : Option Addr) (n cap : Nat) (T : List P2) (c lo hi : Int), v = tkV A n cap c lo hi ∧ n = T.length ∧ n ≤ 9223372036854775807 ∧ Rd 2 w A (T.map ptrow) := by
  obtain ⟨cs, rfl, hsz⟩ := okWide_struct Tryz.underlying26 hv
  obtain ⟨fuel, hf⟩ := h
  obtain ⟨xs, m, _, hd, hlen, hxs, hff⟩ := DataW.trod_struct Tryz.underlying26 hf
  have hl : cs.toList.length = 4 := Eq.trans (b := Tryz.prog.cellsOf 26) hlen (by kernel_rfl)
  have hxl : xs.length = 3 := hxs
  have hc : cs = cs.toList.toArray := by simp
  rw [hc]
  have f0 : DataW.trod enc Tryz.prog w base spare held m 22 (List.take (Tryz.prog.cellsOf 22) (List.drop 0 cs.toList)) = xs[0]? := hff 0 _ rfl
  have f1 : DataW.trod enc Tryz.prog w base spare held m 3 (List.take (Tryz.prog.cellsOf 3) (List.drop 1 cs.toList)) = xs[1]? := hff 1 _ rfl
  have f2 : DataW.trod enc Tryz.prog w base spare held m 24 (List.take (Tryz.prog.cellsOf 24) (List.drop 2 cs.toList)) = xs[2]? := hff 2 _ rfl
  clear hf hff hc hlen hsz hv hd
  generalize cs.toList = l at *
  match l, hl with
  | [a, b, c, d], _ =>
    have e3 : Tryz.prog.cellsOf 3 = 1 := by kernel_rfl
    have e23 : Tryz.prog.cellsOf 24 = 2 := by kernel_rfl
    have e24 : Tryz.prog.cellsOf 22 = 1 := by kernel_rfl
    (try dsimp only at f0 f1 f2)
    rw [e24] at f0
    rw [e3] at f1
    rw [e23] at f2
    simp only [List.drop_zero, List.drop_succ_cons, List.take_succ_cons, List.take_zero] at f0 f1 f2
    obtain ⟨x0, z0⟩ : ∃ x, xs[0]? = some x := ⟨xs[0]'(by omega), by simp⟩
    obtain ⟨x1, z1⟩ : ∃ x, xs[1]? = some x := ⟨xs[1]'(by omega), by simp⟩
    obtain ⟨x2, z2⟩ : ∃ x, xs[2]? = some x := ⟨xs[2]'(by omega), by simp⟩
    rw [z0] at f0
    rw [z1] at f1
    rw [z2] at f2
    obtain ⟨A, n, cap, rows, g3, h3, m3, r3, k3⟩ := open_plain_slice (n := 5) Tryz.underlying22 (by kernel_rfl) (by rw [show Tryz.prog.cellsOf 52 = 2 by kernel_rfl]; omega) f0
    obtain ⟨cl, g1, _, _⟩ := DataW.trod_int Tryz.underlying3 f1
    obtain ⟨rl, rh, g2⟩ := cells2 rfl (fun c v hv => plain_cells (P := Tryz.prog) 5 24 m _ _ (by kernel_rfl) f2 c v hv)
    rw [show Tryz.prog.cellsOf 52 = 2 by kernel_rfl] at r3 k3
    obtain ⟨T, hk⟩ := rowsP k3
    cases g1; cases g2; cases g3
    exact ⟨A, n, cap, T, cl, rl, rh, rfl, by rw [h3, hk, List.length_map], by unfold maxLen at m3; omega, hk ▸ r3⟩
set_option maxRecDepth 100000 in
theorem open_start {H : Type} {enc : TypeId × Value → H} {w : World} {base base' : Nat} {r : Reach} {spare : Nat → Bool} {held : Bool} {v : Value} {d : DataW H} {ps : List MemPlace}
    (hv : Value.okWide Tryz.prog w r base' 29 v) (h : DataW.Trod enc Tryz.prog w base spare held 29 v d ps) :
    ∃ (A : Option Addr) (n cap : Nat) (E : List Int) (r : Int), v = .agg #[.slice A n cap, .int .i64 r] ∧ n = E.length ∧ n ≤ 9223372036854775807 ∧ RdI w A E := by
  obtain ⟨cs, rfl, hsz⟩ := okWide_struct Tryz.underlying29 hv
  obtain ⟨fuel, hf⟩ := h
  obtain ⟨xs, m, _, hd, hlen, hxs, hff⟩ := DataW.trod_struct Tryz.underlying29 hf
  have hl : cs.toList.length = 2 := Eq.trans (b := Tryz.prog.cellsOf 29) hlen (by kernel_rfl)
  have hxl : xs.length = 2 := hxs
  have hc : cs = cs.toList.toArray := by simp
  rw [hc]
  have f0 : DataW.trod enc Tryz.prog w base spare held m 27 (List.take (Tryz.prog.cellsOf 27) (List.drop 0 cs.toList)) = xs[0]? := hff 0 _ rfl
  have f1 : DataW.trod enc Tryz.prog w base spare held m 3 (List.take (Tryz.prog.cellsOf 3) (List.drop 1 cs.toList)) = xs[1]? := hff 1 _ rfl
  clear hf hff hc hlen hsz hv hd
  generalize cs.toList = l at *
  match l, hl with
  | [a, b], _ =>
    have e3 : Tryz.prog.cellsOf 3 = 1 := by kernel_rfl
    have e24 : Tryz.prog.cellsOf 27 = 1 := by kernel_rfl
    (try dsimp only at f0 f1)
    rw [e24] at f0
    rw [e3] at f1
    simp only [List.drop_zero, List.drop_succ_cons, List.take_succ_cons, List.take_zero] at f0 f1
    obtain ⟨x0, z0⟩ : ∃ x, xs[0]? = some x := ⟨xs[0]'(by omega), by simp⟩
    obtain ⟨x1, z1⟩ : ∃ x, xs[1]? = some x := ⟨xs[1]'(by omega), by simp⟩
    rw [z0] at f0
    rw [z1] at f1
    obtain ⟨A, n, cap, rows, g3, h3, m3, r3, k3⟩ := open_plain_slice (n := 5) Tryz.underlying27 (by kernel_rfl) (by rw [show Tryz.prog.cellsOf 3 = 1 by kernel_rfl]; omega) f0
    obtain ⟨q, g1, _, _⟩ := DataW.trod_int Tryz.underlying3 f1
    rw [show Tryz.prog.cellsOf 3 = 1 by kernel_rfl] at r3 k3
    obtain ⟨E, hk⟩ := rows1 k3
    cases g1; cases g3
    exact ⟨A, n, cap, E, q, rfl, by rw [h3, hk, List.length_map], by unfold maxLen at m3; omega, (by subst hk; exact r3)⟩
end Go.Proofs.YtgmhelclofnpkaaGreat
