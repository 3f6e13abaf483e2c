/- Walks: all areas and all skews of a wheel. -/
import Derived.Test.YtgmhelclofnpkaaQj
namespace Go.Proofs.Ytgmhelclofnpkaa
open Go.RowKit Go.Shelf Go.Maps

set_option maxHeartbeats 400000 in
theorem theAreaW (t : P2) (w : World) : Calls Try.prog 40 #[trV t] w fun e w' => e = .returned (.int .i64 t.1) ∧ Below w.heap.size w w' := by
  go_enter Try.func40, Try.ntmps40
  go_wp2
  go_ret
  exact ⟨rfl, by (repeat' (first | (with_reducible exact Below.refl _ _) | (with_reducible assumption) | (with_reducible refine Below.drew ?_) | (with_reducible refine below_drewN ?_ _) | (with_reducible refine Below.setCell ?_ ?_ _) | (with_reducible refine Below.alloc ?_ ?_ _) | (refine Below.trans ?_ (Below.mono (by with_reducible assumption) ?_)) | omega | (exact Below.size (by with_reducible assumption)) | (simp; done) | (simp; omega)))⟩
set_option maxHeartbeats 400000 in
theorem theSkewW (t : P2) (w : World) : Calls Try.prog 41 #[trV t] w fun e w' => e = .returned (.int .i64 t.2) ∧ Below w.heap.size w w' := by
  go_enter Try.func41, Try.ntmps41
  go_wp2
  go_ret
  exact ⟨rfl, by (repeat' (first | (with_reducible exact Below.refl _ _) | (with_reducible assumption) | (with_reducible refine Below.drew ?_) | (with_reducible refine below_drewN ?_ _) | (with_reducible refine Below.setCell ?_ ?_ _) | (with_reducible refine Below.alloc ?_ ?_ _) | (refine Below.trans ?_ (Below.mono (by with_reducible assumption) ?_)) | omega | (exact Below.size (by with_reducible assumption)) | (simp; done) | (simp; omega)))⟩
theorem at_wf {h : Wh} {l : List Wk} (hV : WhV h l) {t : P2} (ht : Sh.In h.lo h.hi (-h.skew) h.skew t) : (Lit.int .i64 t.1).wf = true ∧ (Lit.int .i64 t.2).wf = true := by
  have := at_bd hV ht
  exact ⟨WalkArith.wf_i64 (by omega), WalkArith.wf_i64 (by omega)⟩
set_option maxHeartbeats 2000000 in
theorem AreasW (h : Wh) (A : Option Addr) (ws : List Wk) (n cap : Nat) (w : World) (hA : Rd 5 w A (ws.map wkrow)) (hn : Hid (n = ws.length)) (hV : Hid (WhV h ws)) (hne : Hid (Wl.trs h ws ≠ [])) :
    Calls Try.prog 11 #[whV h, .slice A n cap] w fun e w' => ∃ (A' : Option Addr) (cap' : Nat) (ks : List Int), e = .returned (.tuple #[.slice A' ks.length cap', .int .i64 0]) ∧ RdI w' A' ks ∧ Hid (KeysOf ks ((Wl.trs h ws).map fun t => t.1)) ∧ Below w.heap.size w w' := by
  have HA := Lib.hid hA
  clear hA
  have hop := fun W (k : Rd 5 W A (ws.map wkrow)) => wopenW h A ws n cap W k hn hV
  rw [if_neg hne.out] at hop
  have HOP := Lib.hid hop
  clear hop
  go_enter Try.func11, Try.ntmps11
  go_wp2_with fail
  refine (HOP.out _ (HA.out.below (by (repeat' (first | (with_reducible exact Below.refl _ _) | (with_reducible assumption) | (with_reducible refine Below.drew ?_) | (with_reducible refine below_drewN ?_ _) | (with_reducible refine Below.setCell ?_ ?_ _) | (with_reducible refine Below.alloc ?_ ?_ _) | (refine Below.trans ?_ (Below.mono (by with_reducible assumption) ?_)) | omega | (exact Below.size (by with_reducible assumption)) | (simp; done) | (simp; omega)))) (Nat.le_refl _))).mono ?_
  rintro e w1 ⟨rfl, hb1⟩
  have hB1 : Below w.heap.size w w1 := by (repeat' (first | (with_reducible exact Below.refl _ _) | (with_reducible assumption) | (with_reducible refine Below.drew ?_) | (with_reducible refine below_drewN ?_ _) | (with_reducible refine Below.setCell ?_ ?_ _) | (with_reducible refine Below.alloc ?_ ?_ _) | (refine Below.trans ?_ (Below.mono (by with_reducible assumption) ?_)) | omega | (exact Below.size (by with_reducible assumption)) | (simp; done) | (simp; omega)))
  have hBa : Below w.heap.size w (w1.alloc (.cells #[.int .i64 h.full, .int .i64 h.read, .int .i64 h.slip, .int .i64 h.skew, .int .i64 h.circ, .int .i64 h.lo, .int .i64 h.hi, .int .i64 h.wrong, .slice A n cap] 83)) := hB1.alloc hB1.size _
  clear hb1
  go_wp2_with fail
  refine (wkindsW h A ws n cap 40 (fun t => t.1) _ (HA.out.below hBa (Nat.le_refl _)) hn hV (fun t W => theAreaW t W) (enters_of Try.func40 (by kernel_rfl) rfl) (fun t ht => (at_wf hV.out ht).1)).mono ?_
  rintro e w2 ⟨A', cap', ks, rfl, hR, hK, hb2⟩
  have HR := Lib.hid hR
  clear hR
  go_wp2
  go_ret2
  exact ⟨A', cap', ks, rfl, HR.out, hK, hBa.trans (hb2.mono hBa.size)⟩
set_option maxHeartbeats 2000000 in
theorem AreasN (h : Wh) (A : Option Addr) (ws : List Wk) (n cap : Nat) (w : World) (hA : Rd 5 w A (ws.map wkrow)) (hn : Hid (n = ws.length)) (hV : Hid (WhV h ws)) (hne : Hid (Wl.trs h ws = [])) :
    Calls Try.prog 11 #[whV h, .slice A n cap] w fun e w' => e = .returned (.tuple #[.slice none 0 0, .int .i64 3]) ∧ Below w.heap.size w w' := by
  have HA := Lib.hid hA
  clear hA
  have hop := fun W (k : Rd 5 W A (ws.map wkrow)) => wopenW h A ws n cap W k hn hV
  rw [if_pos hne.out] at hop
  have HOP := Lib.hid hop
  clear hop
  go_enter Try.func11, Try.ntmps11
  go_wp2_with fail
  refine (HOP.out _ (HA.out.below (by (repeat' (first | (with_reducible exact Below.refl _ _) | (with_reducible assumption) | (with_reducible refine Below.drew ?_) | (with_reducible refine below_drewN ?_ _) | (with_reducible refine Below.setCell ?_ ?_ _) | (with_reducible refine Below.alloc ?_ ?_ _) | (refine Below.trans ?_ (Below.mono (by with_reducible assumption) ?_)) | omega | (exact Below.size (by with_reducible assumption)) | (simp; done) | (simp; omega)))) (Nat.le_refl _))).mono ?_
  rintro e w1 ⟨rfl, hb1⟩
  have hB1 : Below w.heap.size w w1 := by (repeat' (first | (with_reducible exact Below.refl _ _) | (with_reducible assumption) | (with_reducible refine Below.drew ?_) | (with_reducible refine below_drewN ?_ _) | (with_reducible refine Below.setCell ?_ ?_ _) | (with_reducible refine Below.alloc ?_ ?_ _) | (refine Below.trans ?_ (Below.mono (by with_reducible assumption) ?_)) | omega | (exact Below.size (by with_reducible assumption)) | (simp; done) | (simp; omega)))
  clear hb1
  go_wp2
  go_ret2
  exact ⟨rfl, by (repeat' (first | (with_reducible exact Below.refl _ _) | (with_reducible assumption) | (with_reducible refine Below.drew ?_) | (with_reducible refine below_drewN ?_ _) | (with_reducible refine Below.setCell ?_ ?_ _) | (with_reducible refine Below.alloc ?_ ?_ _) | (refine Below.trans ?_ (Below.mono (by with_reducible assumption) ?_)) | omega | (exact Below.size (by with_reducible assumption)) | (simp; done) | (simp; omega)))⟩
set_option maxHeartbeats 2000000 in
theorem SkewsW (h : Wh) (A : Option Addr) (ws : List Wk) (n cap : Nat) (w : World) (hA : Rd 5 w A (ws.map wkrow)) (hn : Hid (n = ws.length)) (hV : Hid (WhV h ws)) (hne : Hid (Wl.trs h ws ≠ [])) :
    Calls Try.prog 12 #[whV h, .slice A n cap] w fun e w' => ∃ (A' : Option Addr) (cap' : Nat) (ks : List Int), e = .returned (.tuple #[.slice A' ks.length cap', .int .i64 0]) ∧ RdI w' A' ks ∧ Hid (KeysOf ks ((Wl.trs h ws).map fun t => t.2)) ∧ Below w.heap.size w w' := by
  have HA := Lib.hid hA
  clear hA
  have hop := fun W (k : Rd 5 W A (ws.map wkrow)) => wopenW h A ws n cap W k hn hV
  rw [if_neg hne.out] at hop
  have HOP := Lib.hid hop
  clear hop
  go_enter Try.func12, Try.ntmps12
  go_wp2_with fail
  refine (HOP.out _ (HA.out.below (by (repeat' (first | (with_reducible exact Below.refl _ _) | (with_reducible assumption) | (with_reducible refine Below.drew ?_) | (with_reducible refine below_drewN ?_ _) | (with_reducible refine Below.setCell ?_ ?_ _) | (with_reducible refine Below.alloc ?_ ?_ _) | (refine Below.trans ?_ (Below.mono (by with_reducible assumption) ?_)) | omega | (exact Below.size (by with_reducible assumption)) | (simp; done) | (simp; omega)))) (Nat.le_refl _))).mono ?_
  rintro e w1 ⟨rfl, hb1⟩
  have hB1 : Below w.heap.size w w1 := by (repeat' (first | (with_reducible exact Below.refl _ _) | (with_reducible assumption) | (with_reducible refine Below.drew ?_) | (with_reducible refine below_drewN ?_ _) | (with_reducible refine Below.setCell ?_ ?_ _) | (with_reducible refine Below.alloc ?_ ?_ _) | (refine Below.trans ?_ (Below.mono (by with_reducible assumption) ?_)) | omega | (exact Below.size (by with_reducible assumption)) | (simp; done) | (simp; omega)))
  have hBa : Below w.heap.size w (w1.alloc (.cells #[.int .i64 h.full, .int .i64 h.read, .int .i64 h.slip, .int .i64 h.skew, .int .i64 h.circ, .int .i64 h.lo, .int .i64 h.hi, .int .i64 h.wrong, .slice A n cap] 83)) := hB1.alloc hB1.size _
  clear hb1
  go_wp2_with fail
  refine (wkindsW h A ws n cap 41 (fun t => t.2) _ (HA.out.below hBa (Nat.le_refl _)) hn hV (fun t W => theSkewW t W) (enters_of Try.func41 (by kernel_rfl) rfl) (fun t ht => (at_wf hV.out ht).2)).mono ?_
  rintro e w2 ⟨A', cap', ks, rfl, hR, hK, hb2⟩
  have HR := Lib.hid hR
  clear hR
  go_wp2
  go_ret2
  exact ⟨A', cap', ks, rfl, HR.out, hK, hBa.trans (hb2.mono hBa.size)⟩
set_option maxHeartbeats 2000000 in
theorem SkewsN (h : Wh) (A : Option Addr) (ws : List Wk) (n cap : Nat) (w : World) (hA : Rd 5 w A (ws.map wkrow)) (hn : Hid (n = ws.length)) (hV : Hid (WhV h ws)) (hne : Hid (Wl.trs h ws = [])) :
    Calls Try.prog 12 #[whV h, .slice A n cap] w fun e w' => e = .returned (.tuple #[.slice none 0 0, .int .i64 3]) ∧ Below w.heap.size w w' := by
  have HA := Lib.hid hA
  clear hA
  have hop := fun W (k : Rd 5 W A (ws.map wkrow)) => wopenW h A ws n cap W k hn hV
  rw [if_pos hne.out] at hop
  have HOP := Lib.hid hop
  clear hop
  go_enter Try.func12, Try.ntmps12
  go_wp2_with fail
  refine (HOP.out _ (HA.out.below (by (repeat' (first | (with_reducible exact Below.refl _ _) | (with_reducible assumption) | (with_reducible refine Below.drew ?_) | (with_reducible refine below_drewN ?_ _) | (with_reducible refine Below.setCell ?_ ?_ _) | (with_reducible refine Below.alloc ?_ ?_ _) | (refine Below.trans ?_ (Below.mono (by with_reducible assumption) ?_)) | omega | (exact Below.size (by with_reducible assumption)) | (simp; done) | (simp; omega)))) (Nat.le_refl _))).mono ?_
  rintro e w1 ⟨rfl, hb1⟩
  have hB1 : Below w.heap.size w w1 := by (repeat' (first | (with_reducible exact Below.refl _ _) | (with_reducible assumption) | (with_reducible refine Below.drew ?_) | (with_reducible refine below_drewN ?_ _) | (with_reducible refine Below.setCell ?_ ?_ _) | (with_reducible refine Below.alloc ?_ ?_ _) | (refine Below.trans ?_ (Below.mono (by with_reducible assumption) ?_)) | omega | (exact Below.size (by with_reducible assumption)) | (simp; done) | (simp; omega)))
  clear hb1
  go_wp2
  go_ret2
  exact ⟨rfl, by (repeat' (first | (with_reducible exact Below.refl _ _) | (with_reducible assumption) | (with_reducible refine Below.drew ?_) | (with_reducible refine below_drewN ?_ _) | (with_reducible refine Below.setCell ?_ ?_ _) | (with_reducible refine Below.alloc ?_ ?_ _) | (refine Below.trans ?_ (Below.mono (by with_reducible assumption) ?_)) | omega | (exact Below.size (by with_reducible assumption)) | (simp; done) | (simp; omega)))⟩
end Go.Proofs.Ytgmhelclofnpkaa
