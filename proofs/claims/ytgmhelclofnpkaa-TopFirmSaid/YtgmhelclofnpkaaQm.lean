/- Walks: the examples of wheels and arms; both layers are there. -/
import Derived.Test.YtgmhelclofnpkaaQl
import Derived.Test.YtgmhelclofnpkaaQk
import Derived.Test.YtgmhelclofnpkaaUm
namespace Go.Proofs.Ytgmhelclofnpkaa
open Go.RowKit Go.Maps

def exW : Wh := ⟨100, 0, 0, 2, 0, 40, 60, 0⟩
def exK : List Wk := [⟨1, 1, 0, 10, 62⟩, ⟨1, -1, 0, 62, 16⟩]
theorem exW_ok : Wl.Ok exW := by constructor <;> decide
theorem exW_v : WhV exW exK := ⟨exW_ok, by decide, fun x hx => by
  simp only [exK, List.mem_cons, List.not_mem_nil, or_false] at hx
  rcases hx with rfl | rfl <;> constructor <;> decide⟩
theorem exW_trs : Wl.trs exW exK = [(53, -1)] := by kernel_rfl
theorem keys_one {ks : List Int} {x : Int} (h : KeysOf ks [x]) : ks = [x] := by
  obtain ⟨h1, h2⟩ := h
  match ks with
  | [] => exact absurd ((h2 x).2 (by simp)) (by simp)
  | [a] =>
    have := (h2 a).1 (by simp)
    simpa using this
  | a :: b :: r =>
    have e1 : a = x := by simpa using (h2 a).1 (by simp)
    have e2 : b = x := by simpa using (h2 b).1 (by simp)
    have := (List.pairwise_cons.1 h1).1 b (by simp)
    omega
set_option maxHeartbeats 1000000 in
theorem ex03W (w : World) : Calls Try.prog 32 #[] w fun e w' => ∃ (A : Option Addr) (cap : Nat), e = .returned (.tuple #[whV exW, .slice A 2 cap]) ∧ Rd 5 w' A (exK.map wkrow) ∧ Below w.heap.size w w' := by
  go_enter Try.func32, Try.ntmps32
  go_wp2
  refine bodyPost_ret (results_cell_t (B := w.heap.size) (vs := whC exW) rfl rfl ((Own.new' _ _ rfl rfl).alloc _) (by kernel_rfl) (by kernel_rfl)) rfl ?_
  refine ⟨some ⟨w.heap.size + 1, 0, none⟩, 2, rfl, Own.rd' (vs := [.int .i64 1, .int .i64 1, .int .i64 0, .int .i64 10, .int .i64 62, .int .i64 1, .int .i64 (-1), .int .i64 0, .int .i64 62, .int .i64 16]) ?_ rfl (by simp [exK, wkrow]), by (repeat' (first | (with_reducible exact Below.refl _ _) | (with_reducible assumption) | (with_reducible refine Below.drew ?_) | (with_reducible refine below_drewN ?_ _) | (with_reducible refine Below.setCell ?_ ?_ _) | (with_reducible refine Below.alloc ?_ ?_ _) | (refine Below.trans ?_ (Below.mono (by with_reducible assumption) ?_)) | omega | (exact Below.size (by with_reducible assumption)) | (simp; done) | (simp; omega)))⟩
  exact Own.new' _ _ (by simp) rfl
theorem results_cellAA {P : Program} {fn : Func} {tmps : Array Value} {w : World} {a b B C t u : Nat} {vs xs : List Value} (hr : fn.results = #[.cell a t, .cell b u]) (ha : tmps.getD a undef = .pointer (some ⟨B, 0, none⟩)) (hb : tmps.getD b undef = .pointer (some ⟨C, 0, none⟩)) (ho : Own w B vs) (hp : Own w C xs)
    (hagg : (isAgg t).run P w = .ok true w) (hsz : (sizeOf t).run P w = .ok vs.length w) (hagg' : (isAgg u).run P w = .ok true w) (hsz' : (sizeOf u).run P w = .ok xs.length w) : (results fn tmps).run P w = .ok (.tuple #[.agg vs.toArray, .agg xs.toArray]) w := by
  have hl := loadCells_own (P := P) ho vs.length 0 #[] (by omega)
  have hl2 := loadCells_own (P := P) hp xs.length 0 #[] (by omega)
  have ha' : tmps[a]?.getD undef = .pointer (some ⟨B, 0, none⟩) := by simpa using ha
  have hb' : tmps[b]?.getD undef = .pointer (some ⟨C, 0, none⟩) := by simpa using hb
  simp [results, hr, go_sem, loadVar, hagg, hsz, hagg', hsz', loadCells, hl, hl2, ha', hb', asAddr]
set_option maxHeartbeats 1000000 in
theorem ex01W (w : World) : Calls Try.prog 34 #[] w fun e w' => e = .returned (.tuple #[armV, .agg #[.int .i64 10, .int .i64 1]]) ∧ Below w.heap.size w w' := by
  go_enter Try.func34, Try.ntmps34
  go_wp2
  refine bodyPost_ret (results_cellAA (B := w.heap.size) (C := w.heap.size + 1) (vs := [.int .i64 1, .int .i64 2, .int .i64 3, .int .i64 10, .int .i64 10, .int .i64 200]) (xs := [.int .i64 10, .int .i64 1]) rfl rfl rfl ((Own.new' _ _ rfl rfl).alloc _) (Own.new' _ _ (by simp) rfl) (by kernel_rfl) (by kernel_rfl) (by kernel_rfl) (by kernel_rfl)) rfl ?_
  exact ⟨rfl, by (repeat' (first | (with_reducible exact Below.refl _ _) | (with_reducible assumption) | (with_reducible refine Below.drew ?_) | (with_reducible refine below_drewN ?_ _) | (with_reducible refine Below.setCell ?_ ?_ _) | (with_reducible refine Below.alloc ?_ ?_ _) | (refine Below.trans ?_ (Below.mono (by with_reducible assumption) ?_)) | omega | (exact Below.size (by with_reducible assumption)) | (simp; done) | (simp; omega)))⟩
theorem eql_ratio (w : World) : (binOp .eql 72 (.agg #[.int .i64 6, .int .i64 1]) (.agg #[.int .i64 6, .int .i64 1])).run Try.prog w = .ok (.bool true) w := by kernel_rfl
set_option maxRecDepth 100000 in
set_option maxHeartbeats 4000000 in
theorem dialledW (w : World) : Calls Try.prog 9 #[] w fun e w' => e = .returned (.bool true) ∧ Below w.heap.size w w' := by
  have hql := eql_ratio
  go_enter Try.func9, Try.ntmps9
  go_wp2_with fail
  refine (ex03W _).mono ?_
  rintro e w1 ⟨A, cap, rfl, hR, hb1⟩
  have HR := Lib.hid hR
  have hBa : Below w.heap.size w (w1.alloc (.cells #[.int .i64 100, .int .i64 0, .int .i64 0, .int .i64 2, .int .i64 0, .int .i64 40, .int .i64 60, .int .i64 0] 34)) := hb1.alloc hb1.size _
  have oW : Own (w1.alloc (.cells #[.int .i64 100, .int .i64 0, .int .i64 0, .int .i64 2, .int .i64 0, .int .i64 40, .int .i64 60, .int .i64 0] 34)) w1.heap.size (whC exW) := Own.new' _ _ rfl rfl
  clear hR hb1
  go_wp2_with fail
  refine (AreasW exW A exK 2 cap _ (HR.out.below ((Below.refl _ w1).alloc (Nat.le_refl _) _) (Nat.le_refl _)) rfl exW_v (show Wl.trs exW exK ≠ [] by rw [exW_trs]; simp)).mono ?_
  rintro e w2 ⟨A2, cap2, ks, rfl, hks, hK, hb2⟩
  obtain rfl : ks = [53] := keys_one (by have := hK.out; rwa [exW_trs] at this)
  have hB2 := hBa.trans (hb2.mono hBa.size)
  have HK2 := Lib.hid hks
  clear hks hK hb2 hBa oW
  go_wp2_with fail
  refine (ex02W _).mono ?_
  rintro e w3 ⟨A3, cap3, rfl, hR3, hb3⟩
  have HR3 := Lib.hid hR3
  have K3 := Lib.hid (show RdI w3 A2 [53] from HK2.out.below hb3 (Nat.le_refl _))
  have hB3 := hB2.trans (hb3.mono hB2.size)
  clear hR3 hb3 HK2 hB2
  go_wp2_with fail
  refine (cTup (show (if Pl.ok exPs = true then Pl.area exPs else 0) = 16 by rw [exPs_ok]; exact exPs_area) (show (if Pl.ok exPs = true then (0 : Int) else 20) = 0 by rw [exPs_ok]; rfl) (ctwW A3 5 cap3 exPs _ HR3.out rfl (by omega))).mono ?_
  rintro e w4 ⟨rfl, hb4⟩
  have K4 := Lib.hid (show RdI w4 A2 [53] from K3.out.below hb4 (Nat.le_refl _))
  have hB4 := hB3.trans (hb4.mono hB3.size)
  clear hb4 K3 hB3
  go_wp2_with fail
  refine (ex01W _).mono ?_
  rintro e w5 ⟨rfl, hb5⟩
  have K5 := Lib.hid (show RdI w5 A2 [53] from K4.out.below hb5 (Nat.le_refl _))
  have hB5 := hB4.trans (hb5.mono hB4.size)
  have p7 : Own ((w5.alloc (.cells #[.int .i64 1, .int .i64 2, .int .i64 3, .int .i64 10, .int .i64 10, .int .i64 200] 74)).alloc (.cells #[.int .i64 10, .int .i64 1] 76)) w5.heap.size [.int .i64 1, .int .i64 2, .int .i64 3, .int .i64 10, .int .i64 10, .int .i64 200] := (Own.new' _ _ rfl rfl).alloc _
  have q7 : Below w5.heap.size w5 ((w5.alloc (.cells #[.int .i64 1, .int .i64 2, .int .i64 3, .int .i64 10, .int .i64 10, .int .i64 200] 74)).alloc (.cells #[.int .i64 10, .int .i64 1] 76)) := by (repeat' (first | (with_reducible exact Below.refl _ _) | (with_reducible assumption) | (with_reducible refine Below.drew ?_) | (with_reducible refine below_drewN ?_ _) | (with_reducible refine Below.setCell ?_ ?_ _) | (with_reducible refine Below.alloc ?_ ?_ _) | (refine Below.trans ?_ (Below.mono (by with_reducible assumption) ?_)) | omega | (exact Below.size (by with_reducible assumption)) | (simp; done) | (simp; omega)))
  have hB5a := hB5.trans (q7.mono hB5.size)
  have K5a := Lib.hid (show RdI _ A2 [53] from K5.out.below q7 (Nat.le_refl _))
  clear hb5 K4 hB4 K5 q7 hB5
  go_wp2_with fail
  refine (aValueW _).mono ?_
  rintro e w6 ⟨rfl, hb6⟩
  have K6 := Lib.hid (show RdI w6 A2 [53] from K5a.out.below hb6 (Nat.le_refl _))
  have hB6 := hB5a.trans (hb6.mono hB5a.size)
  clear hb6 K5a hB5a p7
  obtain ⟨b, off, rfl, hbl, hc⟩ := Rd.elem K6.out (i := 0) (r := irow 53) rfl
  have hc0 : w6.cell? ⟨b, off, none⟩ = some (.int .i64 53) := by simpa using hc 0 _ rfl
  clear hc
  go_wp2
  go_ret
  exact ⟨rfl, by (repeat' (first | (with_reducible exact Below.refl _ _) | (with_reducible assumption) | (with_reducible refine Below.drew ?_) | (with_reducible refine below_drewN ?_ _) | (with_reducible refine Below.setCell ?_ ?_ _) | (with_reducible refine Below.alloc ?_ ?_ _) | (refine Below.trans ?_ (Below.mono (by with_reducible assumption) ?_)) | omega | (exact Below.size (by with_reducible assumption)) | (simp; done) | (simp; omega)))⟩
end Go.Proofs.Ytgmhelclofnpkaa
