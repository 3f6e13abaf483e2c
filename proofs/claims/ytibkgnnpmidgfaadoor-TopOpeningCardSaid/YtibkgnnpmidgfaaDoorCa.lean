/- Walks of the leaf functions of the coasts: the program and the reference. -/
import Derived.Test.YtibkgnnpmidgfaaDoorProg
import Derived.Test.YtibkgnnpmidgfaaDoorCoP
import Derived.Test.YtibkgnnpmidgfaaDoorKit
namespace Go.Proofs.YtibkgnnpmidgfaaDoor
open Go.RowKit

set_option maxHeartbeats 400000 in
theorem within67 (n lo hi : Int) (w : World) :
    Calls Tryd.prog 67 #[.int .i64 n, .int .i64 lo, .int .i64 hi] w fun e w' => e = .returned (.bool (btw n lo hi)) ∧ w = w' := by
  go_enter Tryd.func67, Tryd.ntmps67
  go_wp2
  all_goals go_ret
  · exact ⟨ret_bool (btw_t ‹_›).symm, rfl⟩
  · exact ⟨ret_bool (btw_f ‹_›).symm, rfl⟩
set_option maxHeartbeats 400000 in
theorem within91 (n lo hi : Int) (w : World) :
    Calls Tryd.prog 91 #[.int .i64 n, .int .i64 lo, .int .i64 hi] w fun e w' => e = .returned (.bool (btw n lo hi)) ∧ w = w' := by
  go_enter Tryd.func91, Tryd.ntmps91
  go_wp2
  all_goals go_ret
  · exact ⟨ret_bool (btw_t ‹_›).symm, rfl⟩
  · exact ⟨ret_bool (btw_f ‹_›).symm, rfl⟩
set_option maxHeartbeats 400000 in
theorem within52 (n lo hi : Int) (w : World) :
    Calls Tryd.prog 52 #[.int .i64 n, .int .i64 lo, .int .i64 hi] w fun e w' => e = .returned (.bool (btw n lo hi)) ∧ w = w' := by
  go_enter Tryd.func52, Tryd.ntmps52
  go_wp2_with (first | (go_at_call 91; refine (within91 _ _ _ _).mono ?_; rintro e w1 ⟨rfl, rfl⟩))
  go_ret
  exact ⟨rfl, rfl⟩
set_option maxHeartbeats 400000 in
theorem isSteps63 (n : Int) (w : World) :
    Calls Tryd.prog 63 #[.int .i64 n] w fun e w' => e = .returned (.bool (btw n 1 12)) ∧ w = w' := by
  go_enter Tryd.func63, Tryd.ntmps63
  go_wp2_with (first | (go_at_call 67; refine (within67 _ _ _ _).mono ?_; rintro e w1 ⟨rfl, rfl⟩))
  go_ret
  exact ⟨rfl, rfl⟩
set_option maxHeartbeats 400000 in
theorem isOpening64 (n : Int) (w : World) :
    Calls Tryd.prog 64 #[.int .i64 n] w fun e w' => e = .returned (.bool (btw n 1 60)) ∧ w = w' := by
  go_enter Tryd.func64, Tryd.ntmps64
  go_wp2_with (first | (go_at_call 67; refine (within67 _ _ _ _).mono ?_; rintro e w1 ⟨rfl, rfl⟩))
  go_ret
  exact ⟨rfl, rfl⟩
set_option maxHeartbeats 400000 in
theorem isOpening20 (n : Int) (w : World) :
    Calls Tryd.prog 20 #[.int .i64 n] w fun e w' => e = .returned (.bool (btw n 1 60)) ∧ w = w' := by
  go_enter Tryd.func20, Tryd.ntmps20
  go_wp2_with (first | (go_at_call 52; refine (within52 _ _ _ _).mono ?_; rintro e w1 ⟨rfl, rfl⟩))
  go_ret
  exact ⟨rfl, rfl⟩
set_option maxHeartbeats 400000 in
theorem isCoord85 (n : Int) (w : World) :
    Calls Tryd.prog 85 #[.int .i64 n] w fun e w' => e = .returned (.bool (btw n (-200) 200)) ∧ w = w' := by
  go_enter Tryd.func85, Tryd.ntmps85
  go_wp2_with (first | (go_at_call 67; refine (within67 _ _ _ _).mono ?_; rintro e w1 ⟨rfl, rfl⟩))
  go_ret
  exact ⟨rfl, rfl⟩
def isPt (p : Pt) : Bool := btw p.1 (-200) 200 && btw p.2 (-200) 200
set_option maxHeartbeats 400000 in
theorem isPoint53 (x y : Int) (w : World) :
    Calls Tryd.prog 53 #[.agg #[.int .i64 x, .int .i64 y]] w fun e w' => e = .returned (.bool (isPt (x, y))) ∧ Below w.heap.size w w' := by
  cases h : btw x (-200) 200
  · have e : isPt (x, y) = false := by simp [isPt, h]
    rw [e]
    clear e
    have H := Lib.hid h
    clear h
    go_enter Tryd.func53, Tryd.ntmps53
    go_wp2_with (first | (go_at_call 91; refine (within91 _ _ _ _).mono ?_; rw [H.out]; rintro e w1 ⟨rfl, rfl⟩))
    go_ret
    exact ⟨rfl, by (repeat' (first | (with_reducible exact Below.refl _ _) | (with_reducible assumption) | (with_reducible refine Below.drew ?_) | (with_reducible refine below_drewN ?_ _) | (with_reducible refine Below.setCell ?_ ?_ _) | (with_reducible refine Below.alloc ?_ ?_ _) | (refine Below.trans ?_ (Below.mono (by with_reducible assumption) ?_)) | omega | (exact Below.size (by with_reducible assumption)) | (simp; done) | (simp; omega)))⟩
  · have e : isPt (x, y) = btw y (-200) 200 := by simp [isPt, h]
    rw [e]
    clear e
    have H := Lib.hid h
    clear h
    go_enter Tryd.func53, Tryd.ntmps53
    go_wp2_with fail
    refine (within91 _ _ _ _).mono ?_
    rw [H.out]
    rintro e w1 ⟨rfl, rfl⟩
    go_wp2_with (first | (go_at_call 91; refine (within91 _ _ _ _).mono ?_; rintro e w1 ⟨rfl, rfl⟩))
    go_ret
    exact ⟨rfl, by (repeat' (first | (with_reducible exact Below.refl _ _) | (with_reducible assumption) | (with_reducible refine Below.drew ?_) | (with_reducible refine below_drewN ?_ _) | (with_reducible refine Below.setCell ?_ ?_ _) | (with_reducible refine Below.alloc ?_ ?_ _) | (refine Below.trans ?_ (Below.mono (by with_reducible assumption) ?_)) | omega | (exact Below.size (by with_reducible assumption)) | (simp; done) | (simp; omega)))⟩
/-- What a coast's cells hold. -/
structure RdC (w : World) (A0 A1 A2 : Option Addr) (n0 n1 n2 : Nat) (B : List Pt) (D : List Pt) (R : List Rep) : Prop where
  h0 : n0 = B.length
  h1 : n1 = D.length
  h2 : n2 = R.length
  l0 : n0 ≤ 140737488355328
  l1 : n1 ≤ 140737488355328
  l2 : n2 ≤ 140737488355328
  r0 : Rd 2 w A0 (B.map prow)
  r1 : Rd 2 w A1 (D.map prow)
  r2 : Rd 4 w A2 (R.map rrow)
  wt : ∀ r ∈ R, -9223372036854775808 ≤ r.t ∧ r.t ≤ 9223372036854775807
theorem RdC.below {w w' : World} {A0 A1 A2 : Option Addr} {n0 n1 n2 : Nat} {B D : List Pt} {R : List Rep} {b : Nat} (h : RdC w A0 A1 A2 n0 n1 n2 B D R) (k : Below b w w') (hB : w.heap.size ≤ b) : RdC w' A0 A1 A2 n0 n1 n2 B D R :=
  ⟨h.h0, h.h1, h.h2, h.l0, h.l1, h.l2, h.r0.below k hB, h.r1.below k hB, h.r2.below k hB, h.wt⟩
theorem rd_pt {w : World} {A : Option Addr} {ps : List Pt} (h : Rd 2 w A (ps.map prow)) {i : Nat} {p : Pt} (hi : ps[i]? = some p) :
    ∃ b off, A = some ⟨b, off, none⟩ ∧ b < w.heap.size ∧ w.cell? ⟨b, off + i * 2, none⟩ = some (.int .i64 p.1) ∧ w.cell? ⟨b, off + i * 2 + 1, none⟩ = some (.int .i64 p.2) := by
  obtain ⟨b, off, e, hb, hc⟩ := Rd.elem h (i := i) (r := prow p) (by simp [hi])
  exact ⟨b, off, e, hb, hc 0 (.int .i64 p.1) rfl, hc 1 (.int .i64 p.2) rfl⟩
theorem rd_rep {w : World} {A : Option Addr} {ps : List Rep} (h : Rd 4 w A (ps.map rrow)) {i : Nat} {p : Rep} (hi : ps[i]? = some p) :
    ∃ b off, A = some ⟨b, off, none⟩ ∧ b < w.heap.size ∧ w.cell? ⟨b, off + i * 4, none⟩ = some (.int .i64 p.d) ∧ w.cell? ⟨b, off + i * 4 + 1, none⟩ = some (.int .i64 p.f) ∧ w.cell? ⟨b, off + i * 4 + 2, none⟩ = some (.int .i64 p.t) ∧ w.cell? ⟨b, off + i * 4 + 3, none⟩ = some (.int .i64 p.s) := by
  obtain ⟨b, off, e, hb, hc⟩ := Rd.elem h (i := i) (r := rrow p) (by simp [hi])
  exact ⟨b, off, e, hb, hc 0 (.int .i64 p.d) rfl, hc 1 (.int .i64 p.f) rfl, hc 2 (.int .i64 p.t) rfl, hc 3 (.int .i64 p.s) rfl⟩

/-- Two numbers are those of two bends of n, the first one before the second one. -/
def plB (n : Nat) (f t : Int) : Bool := decide (0 ≤ f) && decide (f < t) && decide (t < n)
theorem plB_iff {n : Nat} {f t : Int} : plB n f t = true ↔ 0 ≤ f ∧ f < t ∧ t < n := by simp [plB, and_assoc]
set_option maxHeartbeats 1000000 in
theorem arePlaces62 (A0 A1 A2 : Option Addr) (n0 n1 n2 c0 c1 c2 : Nat) (cw f t : Int) (w : World) (hn : n0 ≤ 140737488355328) (ht1 : -9223372036854775808 ≤ t) (ht2 : t ≤ 9223372036854775807) :
    Calls Tryd.prog 62 #[.agg #[.slice A0 n0 c0, .slice A1 n1 c1, .slice A2 n2 c2, .int .i64 cw], .int .i64 f, .int .i64 t] w fun e w' => e = .returned (.bool (plB n0 f t)) ∧ Below w.heap.size w w' := by
  by_cases h0 : 0 ≤ t
  · cases h : btw f 0 (t - 1)
    · have e : plB n0 f t = false := by
        rw [btw_no] at h
        rw [← Bool.not_eq_true, plB_iff]; omega
      rw [e]
      clear e
      have H := Lib.hid h
      clear h
      go_enter Tryd.func62, Tryd.ntmps62
      go_wp2_with fail
      refine (within67 _ _ _ _).mono ?_
      rw [H.out]
      rintro e w1 ⟨rfl, rfl⟩
      go_wp2_with fail
      go_ret
      exact ⟨rfl, by (repeat' (first | (with_reducible exact Below.refl _ _) | (with_reducible assumption) | (with_reducible refine Below.drew ?_) | (with_reducible refine below_drewN ?_ _) | (with_reducible refine Below.setCell ?_ ?_ _) | (with_reducible refine Below.alloc ?_ ?_ _) | (refine Below.trans ?_ (Below.mono (by with_reducible assumption) ?_)) | omega | (exact Below.size (by with_reducible assumption)) | (simp; done) | (simp; omega)))⟩
    · have e : plB n0 f t = btw t 0 ((n0 : Int) - 1) := by
        rw [btw_iff] at h
        rw [Bool.eq_iff_iff, plB_iff, btw_iff]; omega
      rw [e]
      clear e
      have H := Lib.hid h
      clear h
      go_enter Tryd.func62, Tryd.ntmps62
      go_wp2_with fail
      refine (within67 _ _ _ _).mono ?_
      rw [H.out]
      rintro e w1 ⟨rfl, rfl⟩
      go_wp2_with (first | (go_at_call 67; refine (within67 _ _ _ _).mono ?_; rintro e w1 ⟨rfl, rfl⟩))
      go_ret
      exact ⟨rfl, by (repeat' (first | (with_reducible exact Below.refl _ _) | (with_reducible assumption) | (with_reducible refine Below.drew ?_) | (with_reducible refine below_drewN ?_ _) | (with_reducible refine Below.setCell ?_ ?_ _) | (with_reducible refine Below.alloc ?_ ?_ _) | (refine Below.trans ?_ (Below.mono (by with_reducible assumption) ?_)) | omega | (exact Below.size (by with_reducible assumption)) | (simp; done) | (simp; omega)))⟩
  · have e : plB n0 f t = false := by
      rw [← Bool.not_eq_true, plB_iff]; omega
    have e2 : Hid (btw t 0 ((n0 : Int) - 1) = false) := by show _ = _; rw [btw_no]; omega
    rw [e]
    clear e
    go_enter Tryd.func62, Tryd.ntmps62
    go_wp2_with fail
    refine (within67 _ _ _ _).mono ?_
    rintro e w1 ⟨rfl, rfl⟩
    go_wp2_with (first | (go_at_call 67; refine (within67 _ _ _ _).mono ?_; rw [e2.out]; rintro e w1 ⟨rfl, rfl⟩))
    all_goals go_ret
    all_goals exact ⟨rfl, by (repeat' (first | (with_reducible exact Below.refl _ _) | (with_reducible assumption) | (with_reducible refine Below.drew ?_) | (with_reducible refine below_drewN ?_ _) | (with_reducible refine Below.setCell ?_ ?_ _) | (with_reducible refine Below.alloc ?_ ?_ _) | (refine Below.trans ?_ (Below.mono (by with_reducible assumption) ?_)) | omega | (exact Below.size (by with_reducible assumption)) | (simp; done) | (simp; omega)))⟩
set_option maxHeartbeats 1000000 in
theorem areBends15 (A0 A1 A2 : Option Addr) (n0 n1 n2 c0 c1 c2 : Nat) (cw f t : Int) (w : World) :
    Calls Tryd.prog 15 #[.agg #[.slice A0 n0 c0, .slice A1 n1 c1, .slice A2 n2 c2, .int .i64 cw], .int .i64 f, .int .i64 t] w fun e w' => e = .returned (.bool (plB n0 f t)) ∧ Below w.heap.size w w' := by
  by_cases h0 : 0 ≤ f
  · by_cases h1 : f < t
    · have e : plB n0 f t = decide (t < n0) := by rw [Bool.eq_iff_iff, plB_iff, decide_eq_true_eq]; omega
      rw [e]
      go_enter Tryd.func15, Tryd.ntmps15
      go_wp2
      go_ret
      exact ⟨rfl, by (repeat' (first | (with_reducible exact Below.refl _ _) | (with_reducible assumption) | (with_reducible refine Below.drew ?_) | (with_reducible refine below_drewN ?_ _) | (with_reducible refine Below.setCell ?_ ?_ _) | (with_reducible refine Below.alloc ?_ ?_ _) | (refine Below.trans ?_ (Below.mono (by with_reducible assumption) ?_)) | omega | (exact Below.size (by with_reducible assumption)) | (simp; done) | (simp; omega)))⟩
    · have e : plB n0 f t = false := by rw [← Bool.not_eq_true, plB_iff]; omega
      rw [e]
      go_enter Tryd.func15, Tryd.ntmps15
      go_wp2
      go_ret
      exact ⟨rfl, by (repeat' (first | (with_reducible exact Below.refl _ _) | (with_reducible assumption) | (with_reducible refine Below.drew ?_) | (with_reducible refine below_drewN ?_ _) | (with_reducible refine Below.setCell ?_ ?_ _) | (with_reducible refine Below.alloc ?_ ?_ _) | (refine Below.trans ?_ (Below.mono (by with_reducible assumption) ?_)) | omega | (exact Below.size (by with_reducible assumption)) | (simp; done) | (simp; omega)))⟩
  · have e : plB n0 f t = false := by rw [← Bool.not_eq_true, plB_iff]; omega
    rw [e]
    go_enter Tryd.func15, Tryd.ntmps15
    go_wp2
    go_ret
    exact ⟨rfl, by (repeat' (first | (with_reducible exact Below.refl _ _) | (with_reducible assumption) | (with_reducible refine Below.drew ?_) | (with_reducible refine below_drewN ?_ _) | (with_reducible refine Below.setCell ?_ ?_ _) | (with_reducible refine Below.alloc ?_ ?_ _) | (refine Below.trans ?_ (Below.mono (by with_reducible assumption) ?_)) | omega | (exact Below.size (by with_reducible assumption)) | (simp; done) | (simp; omega)))⟩
set_option maxHeartbeats 400000 in
theorem isDivider71 (A0 A1 A2 : Option Addr) (n0 n1 n2 c0 c1 c2 : Nat) (cw n : Int) (w : World) (hn : n1 ≤ 140737488355328) :
    Calls Tryd.prog 71 #[.agg #[.slice A0 n0 c0, .slice A1 n1 c1, .slice A2 n2 c2, .int .i64 cw], .int .i64 n] w fun e w' => e = .returned (.bool (btw n 0 ((n1 : Int) - 1))) ∧ Below w.heap.size w w' := by
  go_enter Tryd.func71, Tryd.ntmps71
  go_wp2_with (first | (go_at_call 67; refine (within67 _ _ _ _).mono ?_; rintro e w1 ⟨rfl, rfl⟩))
  go_ret
  exact ⟨rfl, by (repeat' (first | (with_reducible exact Below.refl _ _) | (with_reducible assumption) | (with_reducible refine Below.drew ?_) | (with_reducible refine below_drewN ?_ _) | (with_reducible refine Below.setCell ?_ ?_ _) | (with_reducible refine Below.alloc ?_ ?_ _) | (refine Below.trans ?_ (Below.mono (by with_reducible assumption) ?_)) | omega | (exact Below.size (by with_reducible assumption)) | (simp; done) | (simp; omega)))⟩
set_option maxHeartbeats 400000 in
theorem isDivider32 (A0 A1 A2 : Option Addr) (n0 n1 n2 c0 c1 c2 : Nat) (cw n : Int) (w : World) (hn : n1 ≤ 140737488355328) :
    Calls Tryd.prog 32 #[.agg #[.slice A0 n0 c0, .slice A1 n1 c1, .slice A2 n2 c2, .int .i64 cw], .int .i64 n] w fun e w' => e = .returned (.bool (btw n 0 ((n1 : Int) - 1))) ∧ Below w.heap.size w w' := by
  go_enter Tryd.func32, Tryd.ntmps32
  go_wp2_with (first | (go_at_call 52; refine (within52 _ _ _ _).mono ?_; rintro e w1 ⟨rfl, rfl⟩))
  go_ret
  exact ⟨rfl, by (repeat' (first | (with_reducible exact Below.refl _ _) | (with_reducible assumption) | (with_reducible refine Below.drew ?_) | (with_reducible refine below_drewN ?_ _) | (with_reducible refine Below.setCell ?_ ?_ _) | (with_reducible refine Below.alloc ?_ ?_ _) | (refine Below.trans ?_ (Below.mono (by with_reducible assumption) ?_)) | omega | (exact Below.size (by with_reducible assumption)) | (simp; done) | (simp; omega)))⟩
theorem sq_bound {x m : Int} (h1 : -m ≤ x) (h2 : x ≤ m) : 0 ≤ x * x ∧ x * x ≤ m * m := by
  rcases Int.le_total 0 x with h | h
  · exact ⟨Int.mul_nonneg h h, Int.mul_le_mul h2 h2 h (by omega)⟩
  · refine ⟨Int.mul_nonneg_of_nonpos_of_nonpos h h, ?_⟩
    have : (-x) * (-x) ≤ m * m := Int.mul_le_mul (by omega) (by omega) (by omega) (by omega)
    rwa [Int.neg_mul_neg] at this
set_option maxHeartbeats 1000000 in
theorem reaches81 (a1 a2 b1 b2 o : Int) (w : World) (h1 : -200 ≤ a1 ∧ a1 ≤ 200) (h2 : -200 ≤ a2 ∧ a2 ≤ 200) (h3 : -200 ≤ b1 ∧ b1 ≤ 200) (h4 : -200 ≤ b2 ∧ b2 ≤ 200) (h5 : 0 ≤ o ∧ o ≤ 200) :
    Calls Tryd.prog 81 #[.agg #[.int .i64 a1, .int .i64 a2], .agg #[.int .i64 b1, .int .i64 b2], .int .i64 o] w fun e w' => e = .returned (.bool (reachB (a1, a2) (b1, b2) o)) ∧ Below w.heap.size w w' := by
  have k1 := sq_bound (x := b1 - a1) (m := 400) (by omega) (by omega)
  have k2 := sq_bound (x := b2 - a2) (m := 400) (by omega) (by omega)
  have k3 := sq_bound (x := o) (m := 200) (by omega) (by omega)
  go_enter Tryd.func81, Tryd.ntmps81
  go_wp2
  go_quiet (fail)
  go_wp2
  go_ret
  exact ⟨rfl, by (repeat' (first | (with_reducible exact Below.refl _ _) | (with_reducible assumption) | (with_reducible refine Below.drew ?_) | (with_reducible refine below_drewN ?_ _) | (with_reducible refine Below.setCell ?_ ?_ _) | (with_reducible refine Below.alloc ?_ ?_ _) | (refine Below.trans ?_ (Below.mono (by with_reducible assumption) ?_)) | omega | (exact Below.size (by with_reducible assumption)) | (simp; done) | (simp; omega)))⟩

end Go.Proofs.YtibkgnnpmidgfaaDoor
