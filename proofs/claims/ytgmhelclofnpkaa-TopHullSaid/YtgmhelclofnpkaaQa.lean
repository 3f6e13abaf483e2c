/- Walks: the reference's points, turns, signs, points on sides. -/
import Derived.Test.YtgmhelclofnpkaaKc
namespace Go.Proofs.Ytgmhelclofnpkaa
open Go.RowKit

set_option maxHeartbeats 400000 in
theorem rwithinW (n lo hi : Int) (w : World) :
    Calls Try.prog 27 #[.int .i64 n, .int .i64 lo, .int .i64 hi] w fun e w' => e = .returned (.bool (btw n lo hi)) ∧ w = w' := by
  go_enter Try.func27, Try.ntmps27
  go_wp2
  all_goals go_ret
  all_goals exact ⟨ret_bool (by unfold btw; (first | rfl | (rw [Bool.eq_iff_iff]; simp; done) | (rw [Bool.eq_iff_iff]; simp; omega))), rfl⟩
set_option maxHeartbeats 400000 in
theorem rIsPointW (x y : Int) (w : World) :
    Calls Try.prog 28 #[.agg #[.int .i64 x, .int .i64 y]] w fun e w' => e = .returned (.bool (Pl.isP (x, y))) ∧ Below w.heap.size w w' := by
  cases h : btw x (-200) 200
  · rw [isP_f h]
    have H := Lib.hid h
    clear h
    go_enter Try.func28, Try.ntmps28
    go_wp2_with fail
    refine (rwithinW _ _ _ _).mono ?_
    rw [H.out]
    rintro e w1 ⟨rfl, rfl⟩
    go_wp2
    go_ret
    exact ⟨rfl, by (repeat' (first | (with_reducible exact Below.refl _ _) | (with_reducible assumption) | (with_reducible refine Below.drew ?_) | (with_reducible refine below_drewN ?_ _) | (with_reducible refine Below.setCell ?_ ?_ _) | (with_reducible refine Below.alloc ?_ ?_ _) | (refine Below.trans ?_ (Below.mono (by with_reducible assumption) ?_)) | omega | (exact Below.size (by with_reducible assumption)) | (simp; done) | (simp; omega)))⟩
  · rw [isP_t h]
    have H := Lib.hid h
    clear h
    go_enter Try.func28, Try.ntmps28
    go_wp2_with fail
    refine (rwithinW _ _ _ _).mono ?_
    rw [H.out]
    rintro e w1 ⟨rfl, rfl⟩
    go_wp2_with fail
    refine (rwithinW _ _ _ _).mono ?_
    rintro e w1 ⟨rfl, rfl⟩
    go_wp2
    go_ret
    exact ⟨rfl, by (repeat' (first | (with_reducible exact Below.refl _ _) | (with_reducible assumption) | (with_reducible refine Below.drew ?_) | (with_reducible refine below_drewN ?_ _) | (with_reducible refine Below.setCell ?_ ?_ _) | (with_reducible refine Below.alloc ?_ ?_ _) | (refine Below.trans ?_ (Below.mono (by with_reducible assumption) ?_)) | omega | (exact Below.size (by with_reducible assumption)) | (simp; done) | (simp; omega)))⟩
set_option maxHeartbeats 1000000 in
theorem rturnW (ax ay bx by' cx cy : Int) (w : World) (ha : Pl.isP (ax, ay) = true) (hb : Pl.isP (bx, by') = true) (hc : Pl.isP (cx, cy) = true) :
    Calls Try.prog 78 #[.agg #[.int .i64 ax, .int .i64 ay], .agg #[.int .i64 bx, .int .i64 by'], .agg #[.int .i64 cx, .int .i64 cy]] w fun e w' => e = .returned (.int .i64 (Pl.turn (ax, ay) (bx, by') (cx, cy))) ∧ Below w.heap.size w w' := by
  have h1 := Pl.turn_bd ha hb hc
  have i1 := Pl.isP_iff.1 ha
  have i2 := Pl.isP_iff.1 hb
  have i3 := Pl.isP_iff.1 hc
  simp only at h1 i1 i2 i3
  clear ha hb hc
  unfold Pl.turn
  simp only
  go_enter Try.func78, Try.ntmps78
  go_wp2
  go_ret
  exact ⟨rfl, by (repeat' (first | (with_reducible exact Below.refl _ _) | (with_reducible assumption) | (with_reducible refine Below.drew ?_) | (with_reducible refine below_drewN ?_ _) | (with_reducible refine Below.setCell ?_ ?_ _) | (with_reducible refine Below.alloc ?_ ?_ _) | (refine Below.trans ?_ (Below.mono (by with_reducible assumption) ?_)) | omega | (exact Below.size (by with_reducible assumption)) | (simp; done) | (simp; omega)))⟩
section
attribute [local go_sem ↓] mn2_run mx2_run
def sg (n : Int) : Int := if n < 0 then -1 else min n 1
set_option maxHeartbeats 400000 in
theorem rsignW (n : Int) (w : World) : Calls Try.prog 79 #[.int .i64 n] w fun e w' => e = .returned (.int .i64 (sg n)) ∧ w = w' := by
  by_cases h : n < 0
  · have e : sg n = -1 := by unfold sg; rw [if_pos h]
    rw [e]
    go_enter Try.func79, Try.ntmps79
    go_wp2
    go_ret
    exact ⟨rfl, rfl⟩
  · have e : sg n = min n 1 := by unfold sg; rw [if_neg h]
    rw [e]
    go_enter Try.func79, Try.ntmps79
    go_wp2
    go_ret
    exact ⟨rfl, rfl⟩
set_option maxHeartbeats 2000000 in
theorem rOnW (ax ay bx by' cx cy : Int) (w : World) (ha : Pl.isP (ax, ay) = true) (hb : Pl.isP (bx, by') = true) (hc : Pl.isP (cx, cy) = true) :
    Calls Try.prog 30 #[.agg #[.int .i64 ax, .int .i64 ay], .agg #[.int .i64 bx, .int .i64 by'], .agg #[.int .i64 cx, .int .i64 cy]] w fun e w' => e = .returned (.bool (Pl.has (ax, ay) (bx, by') (cx, cy))) ∧ Below w.heap.size w w' := by
  have T := fun w => rturnW ax ay bx by' cx cy w ha hb hc
  clear ha hb hc
  by_cases h0 : Pl.turn (ax, ay) (bx, by') (cx, cy) = 0
  · rw [h0] at T
    cases h1 : btw cx (min ax bx) (max ax bx)
    · rw [Pl.has_1 h0 h1]
      have H1 := Lib.hid h1
      clear h0 h1
      go_enter Try.func30, Try.ntmps30
      go_wp2_with fail
      refine (T _).mono ?_
      rintro e w1 ⟨rfl, hb1⟩
      (have hz1 := hb1.size; (try simp at hz1); have hc1_0 := fun o => (bcell hb1).1 (w.heap.size) o (by first | omega | (simp; done) | (simp; omega)); have hf1_0 := fun o => (bcell hb1).2 (w.heap.size) o (by first | omega | (simp; done) | (simp; omega)); have : w.heap.size < w1.heap.size := (by first | omega | (simp; done) | (simp; omega)); have : w.heap.size < w1.heap.size + 1 := (by first | omega | (simp; done) | (simp; omega)); have : w.heap.size < w1.heap.size + 2 := (by first | omega | (simp; done) | (simp; omega)); have : w.heap.size < w1.heap.size + 3 := (by first | omega | (simp; done) | (simp; omega)); have hc1_1 := fun o => (bcell hb1).1 (w.heap.size + 1) o (by first | omega | (simp; done) | (simp; omega)); have hf1_1 := fun o => (bcell hb1).2 (w.heap.size + 1) o (by first | omega | (simp; done) | (simp; omega)); have : w.heap.size + 1 < w1.heap.size := (by first | omega | (simp; done) | (simp; omega)); have : w.heap.size + 1 < w1.heap.size + 1 := (by first | omega | (simp; done) | (simp; omega)); have : w.heap.size + 1 < w1.heap.size + 2 := (by first | omega | (simp; done) | (simp; omega)); have : w.heap.size + 1 < w1.heap.size + 3 := (by first | omega | (simp; done) | (simp; omega)); have hc1_2 := fun o => (bcell hb1).1 (w.heap.size + 1 + 1) o (by first | omega | (simp; done) | (simp; omega)); have hf1_2 := fun o => (bcell hb1).2 (w.heap.size + 1 + 1) o (by first | omega | (simp; done) | (simp; omega)); have : w.heap.size + 1 + 1 < w1.heap.size := (by first | omega | (simp; done) | (simp; omega)); have : w.heap.size + 1 + 1 < w1.heap.size + 1 := (by first | omega | (simp; done) | (simp; omega)); have : w.heap.size + 1 + 1 < w1.heap.size + 2 := (by first | omega | (simp; done) | (simp; omega)); have : w.heap.size + 1 + 1 < w1.heap.size + 3 := (by first | omega | (simp; done) | (simp; omega)))
      go_wp2_with fail
      refine (rwithinW _ _ _ _).mono ?_
      rw [H1.out]
      rintro e w2 ⟨rfl, rfl⟩
      go_wp2
      go_ret
      exact ⟨rfl, by (repeat' (first | (with_reducible exact Below.refl _ _) | (with_reducible assumption) | (with_reducible refine Below.drew ?_) | (with_reducible refine below_drewN ?_ _) | (with_reducible refine Below.setCell ?_ ?_ _) | (with_reducible refine Below.alloc ?_ ?_ _) | (refine Below.trans ?_ (Below.mono (by with_reducible assumption) ?_)) | omega | (exact Below.size (by with_reducible assumption)) | (simp; done) | (simp; omega)))⟩
    · rw [Pl.has_2 h0 h1]
      have H1 := Lib.hid h1
      clear h0 h1
      go_enter Try.func30, Try.ntmps30
      go_wp2_with fail
      refine (T _).mono ?_
      rintro e w1 ⟨rfl, hb1⟩
      (have hz1 := hb1.size; (try simp at hz1); have hc1_0 := fun o => (bcell hb1).1 (w.heap.size) o (by first | omega | (simp; done) | (simp; omega)); have hf1_0 := fun o => (bcell hb1).2 (w.heap.size) o (by first | omega | (simp; done) | (simp; omega)); have : w.heap.size < w1.heap.size := (by first | omega | (simp; done) | (simp; omega)); have : w.heap.size < w1.heap.size + 1 := (by first | omega | (simp; done) | (simp; omega)); have : w.heap.size < w1.heap.size + 2 := (by first | omega | (simp; done) | (simp; omega)); have : w.heap.size < w1.heap.size + 3 := (by first | omega | (simp; done) | (simp; omega)); have hc1_1 := fun o => (bcell hb1).1 (w.heap.size + 1) o (by first | omega | (simp; done) | (simp; omega)); have hf1_1 := fun o => (bcell hb1).2 (w.heap.size + 1) o (by first | omega | (simp; done) | (simp; omega)); have : w.heap.size + 1 < w1.heap.size := (by first | omega | (simp; done) | (simp; omega)); have : w.heap.size + 1 < w1.heap.size + 1 := (by first | omega | (simp; done) | (simp; omega)); have : w.heap.size + 1 < w1.heap.size + 2 := (by first | omega | (simp; done) | (simp; omega)); have : w.heap.size + 1 < w1.heap.size + 3 := (by first | omega | (simp; done) | (simp; omega)); have hc1_2 := fun o => (bcell hb1).1 (w.heap.size + 1 + 1) o (by first | omega | (simp; done) | (simp; omega)); have hf1_2 := fun o => (bcell hb1).2 (w.heap.size + 1 + 1) o (by first | omega | (simp; done) | (simp; omega)); have : w.heap.size + 1 + 1 < w1.heap.size := (by first | omega | (simp; done) | (simp; omega)); have : w.heap.size + 1 + 1 < w1.heap.size + 1 := (by first | omega | (simp; done) | (simp; omega)); have : w.heap.size + 1 + 1 < w1.heap.size + 2 := (by first | omega | (simp; done) | (simp; omega)); have : w.heap.size + 1 + 1 < w1.heap.size + 3 := (by first | omega | (simp; done) | (simp; omega)))
      go_wp2_with fail
      refine (rwithinW _ _ _ _).mono ?_
      rw [H1.out]
      rintro e w2 ⟨rfl, rfl⟩
      go_wp2_with fail
      refine (rwithinW _ _ _ _).mono ?_
      rintro e w2 ⟨rfl, rfl⟩
      go_wp2
      go_ret
      exact ⟨rfl, by (repeat' (first | (with_reducible exact Below.refl _ _) | (with_reducible assumption) | (with_reducible refine Below.drew ?_) | (with_reducible refine below_drewN ?_ _) | (with_reducible refine Below.setCell ?_ ?_ _) | (with_reducible refine Below.alloc ?_ ?_ _) | (refine Below.trans ?_ (Below.mono (by with_reducible assumption) ?_)) | omega | (exact Below.size (by with_reducible assumption)) | (simp; done) | (simp; omega)))⟩
  · rw [Pl.has_0 h0]
    have H0 : decide (Pl.turn (ax, ay) (bx, by') (cx, cy) = 0) = false := decide_eq_false h0
    go_enter Try.func30, Try.ntmps30
    go_wp2_with fail
    refine (T _).mono ?_
    rintro e w1 ⟨rfl, hb1⟩
    go_wp2
    go_ret
    exact ⟨rfl, by (repeat' (first | (with_reducible exact Below.refl _ _) | (with_reducible assumption) | (with_reducible refine Below.drew ?_) | (with_reducible refine below_drewN ?_ _) | (with_reducible refine Below.setCell ?_ ?_ _) | (with_reducible refine Below.alloc ?_ ?_ _) | (refine Below.trans ?_ (Below.mono (by with_reducible assumption) ?_)) | omega | (exact Below.size (by with_reducible assumption)) | (simp; done) | (simp; omega)))⟩
end
theorem sg_bd (n : Int) : -1 ≤ sg n ∧ sg n ≤ 1 := by unfold sg; split <;> omega
theorem sg_lt {m n : Int} : sg m * sg n < 0 ↔ (m < 0 ∧ 0 < n) ∨ (0 < m ∧ n < 0) := by
  have e : ∀ k : Int, (k < 0 ∧ sg k = -1) ∨ (k = 0 ∧ sg k = 0) ∨ (0 < k ∧ sg k = 1) := fun k => by unfold sg; split <;> omega
  rcases e m with ⟨h, k⟩ | ⟨h, k⟩ | ⟨h, k⟩ <;> rcases e n with ⟨h', k'⟩ | ⟨h', k'⟩ | ⟨h', k'⟩ <;> rw [k, k'] <;> omega
def nxI (n i : Nat) : Nat := (i + 1) % n
set_option maxHeartbeats 400000 in
theorem rnextW (A : Option Addr) (n cap i : Nat) (w : World) (hi : i < n) (hn : n ≤ 140737488355328) : Calls Try.prog 29 #[.slice A n cap, .int .i64 i] w fun e w' => e = .returned (.int .i64 ((nxI n i : Nat) : Int)) ∧ w = w' := by
  have e1 : IntKind.i64.wrap ((i : Int) + 1) = (i : Int) + 1 := IntWalk.i64_in _ (by omega)
  have e2 : ((i : Int) + 1).tmod (n : Int) = ((nxI n i : Nat) : Int) := by
    unfold nxI
    rw [Int.tmod_eq_emod_of_nonneg (by omega)]
    simp
  have e3 : ¬ (n : Int) = 0 := by omega
  have hb : nxI n i < n := Nat.mod_lt _ (by omega)
  have e4 : IntKind.i64.wrap (((nxI n i : Nat) : Int)) = ((nxI n i : Nat) : Int) := IntWalk.i64_in _ (by omega)
  go_enter Try.func29, Try.ntmps29
  go_wp2
  go_ret
  exact ⟨rfl, rfl⟩
end Go.Proofs.Ytgmhelclofnpkaa
