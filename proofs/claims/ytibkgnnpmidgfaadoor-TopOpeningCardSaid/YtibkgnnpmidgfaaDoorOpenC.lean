/- The frame of the coasts' laws: how a coast is read; the laid tables. -/
import Derived.Test.YtibkgnnpmidgfaaDoorOpen
import Derived.Test.YtibkgnnpmidgfaaDoorTz
import Derived.Test.YtibkgnnpmidgfaaDoorRows
import Derived.LaidLaws
import Derived.LaidHandle
import Derived.Lib.LaidTab
import Derived.Handed
import Derived.SizedLaws
import Derived.ChangeVars
import Derived.JoinedOf
namespace Go.Proofs.YtibkgnnpmidgfaaDoor
open Go.ChangeShapes Go.WideShapes Go.ChangeAt Go.RowKit Go.Deep Go.Shelf

theorem rep_wf {rs : List Rep} {rows : List (List Value)} (he : rows = rs.map rrow) (h : IntRows 4 rows) : ∀ r ∈ rs, -9223372036854775808 ≤ r.t ∧ r.t ≤ 9223372036854775807 := by
  intro r hr
  obtain ⟨_, hc⟩ := h (rrow r) (he ▸ List.mem_map_of_mem hr)
  obtain ⟨a, ha, hw⟩ := hc 2 (.int .i64 r.t) rfl
  cases ha
  exact bounds_i64 hw
theorem slice_len {P : Program} {H : Type} {enc : TypeId × Value → H} {w : World} {base : Nat} {spare : Nat → Bool} {held : Bool} {fuel : Nat} {t e : TypeId} {A : Option Addr} {len cap : Nat} {x : DataW H × List MemPlace}
    (ht : P.underlying t = some (.slice e)) (h : DataW.trod enc P w base spare held fuel t [.slice A len cap] = some x) : len = 0 ∨ ∃ es sp, x.1 = .slice es sp ∧ es.length = len := by
  rcases open_slice ht h with ⟨h1, _⟩ | ⟨a, len', cap', m, n, F, Pl, h1, _, _, _, _, rfl, _⟩
  · cases h1; exact Or.inl rfl
  · cases h1; exact Or.inr ⟨_, _, rfl, by simp⟩
theorem len_sized {P : Program} {H : Type} {t e : TypeId} {ts : List TypeId} {ds : List (DataW H)} {j len b : Nat} {x : DataW H} (ht : P.underlying t = some (.slice e)) (hb : P.bytesOf e = b) (h1 : 1 ≤ b)
    (hj : ts[j]? = some t) (hx : ds[j]? = some x) (h : len = 0 ∨ ∃ es sp, x = .slice es sp ∧ es.length = len) (hs : ∀ k ∈ DataW.weightsEach P ts ds, k ≤ reachBytes) : len ≤ 140737488355328 := by
  rcases h with h | ⟨es, sp, rfl, h⟩
  · omega
  · have := hs _ (DataW.weights_mem_each hj hx ((es.length + sp.length) * P.bytesOf e) (by simp [DataW.weights, ht]))
    rw [hb] at this
    have h2 : es.length + sp.length ≤ (es.length + sp.length) * b := Nat.le_mul_of_pos_right _ h1
    have h3 := reachBytes_lt
    have h4 : (2 : Nat) ^ 47 = 140737488355328 := by decide
    omega
set_option maxRecDepth 100000 in
/-- A coast that came in. -/
theorem open_coast {H : Type} {enc : TypeId × Value → H} {w : World} {base base' : Nat} {r : Reach} {spare : Nat → Bool} {held : Bool} {v : Value} {d : DataW H} {ps : List MemPlace}
    (hv : Value.okWide Tryd.prog w r base' 26 v) (h : DataW.Trod enc Tryd.prog w base spare held 26 v d ps) (hs : ∀ k ∈ d.weights Tryd.prog 26, k ≤ reachBytes) :
    ∃ (A0 A1 A2 : Option Addr) (n0 n1 n2 c0 c1 c2 : Nat) (cw : Int) (B D : List Pt) (R : List Rep), v = .agg #[.slice A0 n0 c0, .slice A1 n1 c1, .slice A2 n2 c2, .int .i64 cw] ∧ RdC w A0 A1 A2 n0 n1 n2 B D R := by
  obtain ⟨cs, rfl, hsz⟩ := okWide_struct Tryd.underlying26 hv
  obtain ⟨fuel, hf⟩ := h
  obtain ⟨xs, m, _, hd, hlen, hxs, hff⟩ := DataW.trod_struct Tryd.underlying26 hf
  have hd1 : d = .agg (xs.map fun x => x.1) := congrArg Prod.fst hd
  subst hd1
  have hs' : ∀ k ∈ DataW.weightsEach Tryd.prog [22, 23, 24, 3] (xs.map fun x => x.1), k ≤ reachBytes := by
    intro k hk
    refine hs k ?_
    simp only [DataW.weights, Tryd.underlying26]
    exact hk
  have hl : cs.toList.length = 4 := Eq.trans (b := Tryd.prog.cellsOf 26) hlen (by kernel_rfl)
  have hxl : xs.length = 4 := hxs
  have hc : cs = cs.toList.toArray := by simp
  rw [hc]
  have f0 : DataW.trod enc Tryd.prog w base spare held m 22 (List.take (Tryd.prog.cellsOf 22) (List.drop 0 cs.toList)) = xs[0]? := hff 0 _ rfl
  have f1 : DataW.trod enc Tryd.prog w base spare held m 23 (List.take (Tryd.prog.cellsOf 23) (List.drop 1 cs.toList)) = xs[1]? := hff 1 _ rfl
  have f2 : DataW.trod enc Tryd.prog w base spare held m 24 (List.take (Tryd.prog.cellsOf 24) (List.drop 2 cs.toList)) = xs[2]? := hff 2 _ rfl
  have f3 : DataW.trod enc Tryd.prog w base spare held m 3 (List.take (Tryd.prog.cellsOf 3) (List.drop 3 cs.toList)) = xs[3]? := hff 3 _ rfl
  clear hf hff hc hlen hsz hv hd
  generalize cs.toList = l at *
  match l, hl with
  | [a, b, c, e], _ =>
    have e40 : Tryd.prog.cellsOf 22 = 1 := by kernel_rfl
    have e41 : Tryd.prog.cellsOf 23 = 1 := by kernel_rfl
    have e42 : Tryd.prog.cellsOf 24 = 1 := by kernel_rfl
    have e43 : Tryd.prog.cellsOf 3 = 1 := by kernel_rfl
    (try dsimp only at f0 f1 f2 f3)
    rw [e40] at f0
    rw [e41] at f1
    rw [e42] at f2
    rw [e43] at f3
    simp only [List.drop_zero, List.drop_succ_cons, List.take_succ_cons, List.take_zero] at f0 f1 f2 f3
    obtain ⟨x0, z0⟩ : ∃ x, xs[0]? = some x := ⟨xs[0]'(by omega), by simp⟩
    obtain ⟨x1, z1⟩ : ∃ x, xs[1]? = some x := ⟨xs[1]'(by omega), by simp⟩
    obtain ⟨x2, z2⟩ : ∃ x, xs[2]? = some x := ⟨xs[2]'(by omega), by simp⟩
    obtain ⟨x3, z3⟩ : ∃ x, xs[3]? = some x := ⟨xs[3]'(by omega), by simp⟩
    rw [z0] at f0
    rw [z1] at f1
    rw [z2] at f2
    rw [z3] at f3
    obtain ⟨A0, n0, c0, rows0, g0, h0, m0, r0, k0⟩ := open_plain_slice (n := 5) Tryd.underlying22 (by kernel_rfl) (by rw [show Tryd.prog.cellsOf 40 = 2 by kernel_rfl]; omega) f0
    obtain ⟨A1, n1, c1, rows1, g1, h1, m1, r1, k1⟩ := open_plain_slice (n := 5) Tryd.underlying23 (by kernel_rfl) (by rw [show Tryd.prog.cellsOf 33 = 2 by kernel_rfl]; omega) f1
    obtain ⟨A2, n2, c2, rows2', g2, h2, m2, r2, k2⟩ := open_plain_slice (n := 5) Tryd.underlying24 (by kernel_rfl) (by rw [show Tryd.prog.cellsOf 58 = 4 by kernel_rfl]; omega) f2
    obtain ⟨cw, g3, _, _⟩ := DataW.trod_int Tryd.underlying3 f3
    rw [show Tryd.prog.cellsOf 40 = 2 by kernel_rfl] at r0 k0
    rw [show Tryd.prog.cellsOf 33 = 2 by kernel_rfl] at r1 k1
    rw [show Tryd.prog.cellsOf 58 = 4 by kernel_rfl] at r2 k2
    obtain ⟨B, hB⟩ := rows2 k0
    obtain ⟨D, hD⟩ := rows2 k1
    obtain ⟨R, hR⟩ := rows4 k2
    cases g0; cases g1; cases g2; cases g3
    refine ⟨A0, A1, A2, n0, n1, n2, c0, c1, c2, cw, B, D, R, rfl, ⟨?_, ?_, ?_, ?_, ?_, ?_, hB ▸ r0, hD ▸ r1, hR ▸ r2, rep_wf hR k2⟩⟩
    · rw [h0, hB, List.length_map]
    · rw [h1, hD, List.length_map]
    · rw [h2, hR, List.length_map]
    · exact len_sized (b := 16) Tryd.underlying22 (by kernel_rfl) (by omega) (j := 0) rfl (by rw [List.getElem?_map, z0]; rfl) (slice_len Tryd.underlying22 f0) hs'
    · exact len_sized (b := 16) Tryd.underlying23 (by kernel_rfl) (by omega) (j := 1) rfl (by rw [List.getElem?_map, z1]; rfl) (slice_len Tryd.underlying23 f1) hs'
    · exact len_sized (b := 32) Tryd.underlying24 (by kernel_rfl) (by omega) (j := 2) rfl (by rw [List.getElem?_map, z2]; rfl) (slice_len Tryd.underlying24 f2) hs'
/-- The tables that the row lists. -/
abbrev tabsL : List (String × DataW Unit) := [("math/bits.deBruijn32tab", Rows.laid_math_bits_deBruijn32tab), ("math/bits.deBruijn64tab", Rows.laid_math_bits_deBruijn64tab)]
theorem tab_of_laid {W : World} (h : laidMetH Tryd.prog tabsL W) : Tab W := by
  have h' : laidMet Tryd.prog tabsL W := h
  obtain ⟨ps, ⟨_, _, _, _, p, q, _, _, _, _, hrest, _⟩, _⟩ := h'
  obtain ⟨g', t', cs, fuel, p', q', hg', ht', hvar, hd, _⟩ := hrest
  have hg : Tryd.prog.globalNamed "math/bits.deBruijn64tab" = some 1 := by kernel_rfl
  obtain rfl := Option.some.inj (hg.symm.trans hg')
  have hty : (Tryd.prog.globals[1]?).map (·.type) = some 152 := by kernel_rfl
  obtain rfl := Option.some.inj (hty.symm.trans ht')
  have e : (Rows.laid_math_bits_deBruijn64tab : DataW Unit) = Lib.tabData .u8 (Lib.deBruijn64tab.map Int.ofNat) := by kernel_rfl
  rw [e] at hd
  have hcs := Lib.cells_of_tab Tryd.underlying152 Tryd.underlying5 (by kernel_rfl) (by kernel_rfl) hd
  have hT : Lib.TabIs Tryd.prog W "math/bits.deBruijn64tab" .u8 (Lib.deBruijn64tab.map Int.ofNat) := by
    unfold Lib.TabIs
    rw [hvar, ← hcs]
  have hc : ∀ j, j < Lib.deBruijn64tab.length → W.cell? ⟨1, j, none⟩ = some (.int .u8 (Lib.deBruijn64tab.getD j 0)) := by
    intro j hj
    have := hT.cell hg j (by simpa using hj)
    rw [this]
    simp [List.getD_eq_getElem?_getD, hj]
  refine ⟨hc, ?_⟩
  have h0 := hc 0 (by decide)
  false_or_by_contra
  rename_i hge
  have : W.heap[1]? = none := Array.getElem?_eq_none (by omega)
  simp [World.cell?, this] at h0

end Go.Proofs.YtibkgnnpmidgfaaDoor
