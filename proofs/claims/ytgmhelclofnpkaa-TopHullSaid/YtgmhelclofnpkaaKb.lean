/- Walks: a point on a side, two points on both sides of one, two sides that meet; the sides of a polygon as an iterator. -/
import Derived.Test.YtgmhelclofnpkaaKa
namespace Go.Proofs.Ytgmhelclofnpkaa
open Go.RowKit

theorem mn2_run (ats : Array TypeId) (ty : TypeId) (x y : Int) : Builtin.min_ ats ty #[.int .i64 x, .int .i64 y] = pure (.int .i64 (min x y)) := by
  simp [Builtin.min_, Builtin.min2]
  split <;> (congr 2; omega)
theorem mx2_run (ats : Array TypeId) (ty : TypeId) (x y : Int) : Builtin.max_ ats ty #[.int .i64 x, .int .i64 y] = pure (.int .i64 (max x y)) := by
  simp [Builtin.max_, Builtin.max2]
  split <;> (congr 2; omega)
section
attribute [local go_sem ↓] mn2_run mx2_run
namespace Pl
theorem has_0 {a b p : P2} (h : turn a b p ≠ 0) : has a b p = false := by simp [has, h]
theorem has_1 {a b p : P2} (h : turn a b p = 0) (k : btw p.1 (min a.1 b.1) (max a.1 b.1) = false) : has a b p = false := by simp [has, h, k]
theorem has_2 {a b p : P2} (h : turn a b p = 0) (k : btw p.1 (min a.1 b.1) (max a.1 b.1) = true) : has a b p = btw p.2 (min a.2 b.2) (max a.2 b.2) := by simp [has, h, k]
end Pl
set_option maxHeartbeats 2000000 in
theorem hasW (ax ay bx by' cx cy : Int) (w : World) (ha : Pl.isP (ax, ay) = true) (hb : Pl.isP (bx, by') = true) (hc : Pl.isP (cx, cy) = true) :
    Calls Try.prog 63 #[.agg #[.int .i64 ax, .int .i64 ay, .int .i64 bx, .int .i64 by'], .agg #[.int .i64 cx, .int .i64 cy]] w fun e w' => e = .returned (.bool (Pl.has (ax, ay) (bx, by') (cx, cy))) ∧ Below w.heap.size w w' := by
  have T := fun w => turnW ax ay bx by' cx cy w ha hb hc
  clear ha hb hc
  by_cases h0 : Pl.turn (ax, ay) (bx, by') (cx, cy) = 0
  · rw [h0] at T
    cases h1 : btw cx (min ax bx) (max ax bx)
    · rw [Pl.has_1 h0 h1]
      have H1 := Lib.hid h1
      clear h0 h1
      go_enter Try.func63, Try.ntmps63
      go_wp2_with fail
      refine (T _).mono ?_
      rintro e w1 ⟨rfl, hb1⟩
      (have hz1 := hb1.size; (try simp at hz1); have hc1_0 := fun o => (bcell hb1).1 (w.heap.size) o (by first | omega | (simp; done) | (simp; omega)); have hf1_0 := fun o => (bcell hb1).2 (w.heap.size) o (by first | omega | (simp; done) | (simp; omega)); have : w.heap.size < w1.heap.size := (by first | omega | (simp; done) | (simp; omega)); have : w.heap.size < w1.heap.size + 1 := (by first | omega | (simp; done) | (simp; omega)); have : w.heap.size < w1.heap.size + 2 := (by first | omega | (simp; done) | (simp; omega)); have : w.heap.size < w1.heap.size + 3 := (by first | omega | (simp; done) | (simp; omega)); have hc1_1 := fun o => (bcell hb1).1 (w.heap.size + 1) o (by first | omega | (simp; done) | (simp; omega)); have hf1_1 := fun o => (bcell hb1).2 (w.heap.size + 1) o (by first | omega | (simp; done) | (simp; omega)); have : w.heap.size + 1 < w1.heap.size := (by first | omega | (simp; done) | (simp; omega)); have : w.heap.size + 1 < w1.heap.size + 1 := (by first | omega | (simp; done) | (simp; omega)); have : w.heap.size + 1 < w1.heap.size + 2 := (by first | omega | (simp; done) | (simp; omega)); have : w.heap.size + 1 < w1.heap.size + 3 := (by first | omega | (simp; done) | (simp; omega)))
      go_wp2_with fail
      refine (cwithin _ _ _ _).mono ?_
      rw [H1.out]
      rintro e w2 ⟨rfl, rfl⟩
      go_wp2
      go_ret
      exact ⟨rfl, by (repeat' (first | (with_reducible exact Below.refl _ _) | (with_reducible assumption) | (with_reducible refine Below.drew ?_) | (with_reducible refine below_drewN ?_ _) | (with_reducible refine Below.setCell ?_ ?_ _) | (with_reducible refine Below.alloc ?_ ?_ _) | (refine Below.trans ?_ (Below.mono (by with_reducible assumption) ?_)) | omega | (exact Below.size (by with_reducible assumption)) | (simp; done) | (simp; omega)))⟩
    · rw [Pl.has_2 h0 h1]
      have H1 := Lib.hid h1
      clear h0 h1
      go_enter Try.func63, Try.ntmps63
      go_wp2_with fail
      refine (T _).mono ?_
      rintro e w1 ⟨rfl, hb1⟩
      (have hz1 := hb1.size; (try simp at hz1); have hc1_0 := fun o => (bcell hb1).1 (w.heap.size) o (by first | omega | (simp; done) | (simp; omega)); have hf1_0 := fun o => (bcell hb1).2 (w.heap.size) o (by first | omega | (simp; done) | (simp; omega)); have : w.heap.size < w1.heap.size := (by first | omega | (simp; done) | (simp; omega)); have : w.heap.size < w1.heap.size + 1 := (by first | omega | (simp; done) | (simp; omega)); have : w.heap.size < w1.heap.size + 2 := (by first | omega | (simp; done) | (simp; omega)); have : w.heap.size < w1.heap.size + 3 := (by first | omega | (simp; done) | (simp; omega)); have hc1_1 := fun o => (bcell hb1).1 (w.heap.size + 1) o (by first | omega | (simp; done) | (simp; omega)); have hf1_1 := fun o => (bcell hb1).2 (w.heap.size + 1) o (by first | omega | (simp; done) | (simp; omega)); have : w.heap.size + 1 < w1.heap.size := (by first | omega | (simp; done) | (simp; omega)); have : w.heap.size + 1 < w1.heap.size + 1 := (by first | omega | (simp; done) | (simp; omega)); have : w.heap.size + 1 < w1.heap.size + 2 := (by first | omega | (simp; done) | (simp; omega)); have : w.heap.size + 1 < w1.heap.size + 3 := (by first | omega | (simp; done) | (simp; omega)))
      go_wp2_with fail
      refine (cwithin _ _ _ _).mono ?_
      rw [H1.out]
      rintro e w2 ⟨rfl, rfl⟩
      go_wp2_with fail
      refine (cwithin _ _ _ _).mono ?_
      rintro e w2 ⟨rfl, rfl⟩
      go_wp2
      go_ret
      exact ⟨rfl, by (repeat' (first | (with_reducible exact Below.refl _ _) | (with_reducible assumption) | (with_reducible refine Below.drew ?_) | (with_reducible refine below_drewN ?_ _) | (with_reducible refine Below.setCell ?_ ?_ _) | (with_reducible refine Below.alloc ?_ ?_ _) | (refine Below.trans ?_ (Below.mono (by with_reducible assumption) ?_)) | omega | (exact Below.size (by with_reducible assumption)) | (simp; done) | (simp; omega)))⟩
  · rw [Pl.has_0 h0]
    have H0 : decide (Pl.turn (ax, ay) (bx, by') (cx, cy) = 0) = false := decide_eq_false h0
    go_enter Try.func63, Try.ntmps63
    go_wp2_with fail
    refine (T _).mono ?_
    rintro e w1 ⟨rfl, hb1⟩
    go_wp2
    go_ret
    exact ⟨rfl, by (repeat' (first | (with_reducible exact Below.refl _ _) | (with_reducible assumption) | (with_reducible refine Below.drew ?_) | (with_reducible refine below_drewN ?_ _) | (with_reducible refine Below.setCell ?_ ?_ _) | (with_reducible refine Below.alloc ?_ ?_ _) | (refine Below.trans ?_ (Below.mono (by with_reducible assumption) ?_)) | omega | (exact Below.size (by with_reducible assumption)) | (simp; done) | (simp; omega)))⟩
end
end Go.Proofs.Ytgmhelclofnpkaa
