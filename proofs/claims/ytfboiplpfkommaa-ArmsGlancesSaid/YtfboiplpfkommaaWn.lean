/- Walks: verniers, lines that seem to fit. -/
import Derived.Test.YtfboiplpfkommaaWa
import Derived.Test.YtfboiplpfkommaaVerP
namespace Go.Proofs.Ytfboiplpfkommaa
open Go.RowKit

set_option maxHeartbeats 400000 in
theorem isVernier47 (P S : Int) (w : World) :
    Calls Try.prog 47 #[.agg #[.int .i64 P, .int .i64 S]] w fun e w' => e = .returned (.bool (verB P S)) ∧ Below w.heap.size w w' := by
  cases h1 : btw P 2 50
  · rw [show verB P S = false by simp [verB, h1]]
    go_enter Try.func47, Try.ntmps47
    go_wp2_with (first | (go_at_call 26; refine (within26 _ _ _ _).mono ?_; rintro e w1 ⟨rfl, rfl⟩))
    go_ret
    exact ⟨rfl, by (repeat' (first | (with_reducible exact Below.refl _ _) | (with_reducible assumption) | (with_reducible refine Below.drew ?_) | (with_reducible refine below_drewN ?_ _) | (with_reducible refine Below.setCell ?_ ?_ _) | (with_reducible refine Below.alloc ?_ ?_ _) | (refine Below.trans ?_ (Below.mono (by with_reducible assumption) ?_)) | omega | (exact Below.size (by with_reducible assumption)) | (simp; done) | (simp; omega)))⟩
  · rw [show verB P S = btw S 0 P by simp [verB, h1]]
    go_enter Try.func47, Try.ntmps47
    go_wp2_with (first | (go_at_call 26; refine (within26 _ _ _ _).mono ?_; rintro e w1 ⟨rfl, rfl⟩))
    go_ret
    exact ⟨rfl, by (repeat' (first | (with_reducible exact Below.refl _ _) | (with_reducible assumption) | (with_reducible refine Below.drew ?_) | (with_reducible refine below_drewN ?_ _) | (with_reducible refine Below.setCell ?_ ?_ _) | (with_reducible refine Below.alloc ?_ ?_ _) | (refine Below.trans ?_ (Below.mono (by with_reducible assumption) ?_)) | omega | (exact Below.size (by with_reducible assumption)) | (simp; done) | (simp; omega)))⟩

set_option maxHeartbeats 400000 in
theorem isVernier77 (P S : Int) (w : World) :
    Calls Try.prog 77 #[.agg #[.int .i64 P, .int .i64 S]] w fun e w' => e = .returned (.bool (verB P S)) ∧ Below w.heap.size w w' := by
  cases h1 : btw P 2 50
  · rw [show verB P S = false by simp [verB, h1]]
    go_enter Try.func77, Try.ntmps77
    go_wp2_with (first | (go_at_call 53; refine (within53 _ _ _ _).mono ?_; rintro e w1 ⟨rfl, rfl⟩))
    go_ret
    exact ⟨rfl, by (repeat' (first | (with_reducible exact Below.refl _ _) | (with_reducible assumption) | (with_reducible refine Below.drew ?_) | (with_reducible refine below_drewN ?_ _) | (with_reducible refine Below.setCell ?_ ?_ _) | (with_reducible refine Below.alloc ?_ ?_ _) | (refine Below.trans ?_ (Below.mono (by with_reducible assumption) ?_)) | omega | (exact Below.size (by with_reducible assumption)) | (simp; done) | (simp; omega)))⟩
  · rw [show verB P S = btw S 0 P by simp [verB, h1]]
    go_enter Try.func77, Try.ntmps77
    go_wp2_with (first | (go_at_call 53; refine (within53 _ _ _ _).mono ?_; rintro e w1 ⟨rfl, rfl⟩))
    go_ret
    exact ⟨rfl, by (repeat' (first | (with_reducible exact Below.refl _ _) | (with_reducible assumption) | (with_reducible refine Below.drew ?_) | (with_reducible refine below_drewN ?_ _) | (with_reducible refine Below.setCell ?_ ?_ _) | (with_reducible refine Below.alloc ?_ ?_ _) | (refine Below.trans ?_ (Below.mono (by with_reducible assumption) ?_)) | omega | (exact Below.size (by with_reducible assumption)) | (simp; done) | (simp; omega)))⟩

theorem abs56q (n : Int) (w : World) (h1 : -9223372036854775807 ≤ n) (h2 : n ≤ 9223372036854775807) :
    Calls Try.prog 56 #[.int .i64 n] w fun e w' => ∃ q : Int, Hid (q = n.natAbs) ∧ e = .returned (.int .i64 q) ∧ w = w' :=
  (abs56 n w h1 h2).mono fun _ _ h => ⟨_, rfl, h⟩

set_option maxHeartbeats 1000000 in
theorem seems83 (P S s l : Int) (w : World) (hP : 2 ≤ P) (hP' : P ≤ 50) (hs : 0 ≤ s) (hs' : s ≤ 10000) (hl : 0 ≤ l) (hl' : l < P) :
    Calls Try.prog 83 #[.agg #[.int .i64 P, .int .i64 S], .int .i64 s, .int .i64 l] w fun e w' => e = .returned (.bool (seemsB P S s l)) ∧ Below w.heap.size w w' := by
  have h0 := Int.emod_nonneg s (show P ≠ 0 by omega)
  have h1 := Int.emod_lt_of_pos s (show 0 < P by omega)
  go_enter Try.func83, Try.ntmps83
  go_wp2_with fail
  refine (abs56q _ _ (by omega) (by omega)).mono ?_
  rintro e w1 ⟨q, hq, rfl, rfl⟩
  have hq1 : 0 ≤ q ∧ q < P := by have := hq.out; omega
  have hv : Hid (seemsB P S s l = decide (min q (P - q) ≤ S)) := by show _ = _; unfold seemsB; rw [← hq.out]
  rcases (by omega : q ≤ P - q ∨ P - q < q) with hc | hc
  · go_wp2
    go_ret
    exact ⟨by rw [hv.out, Int.min_eq_left hc]; rfl, by (repeat' (first | (with_reducible exact Below.refl _ _) | (with_reducible assumption) | (with_reducible refine Below.drew ?_) | (with_reducible refine below_drewN ?_ _) | (with_reducible refine Below.setCell ?_ ?_ _) | (with_reducible refine Below.alloc ?_ ?_ _) | (refine Below.trans ?_ (Below.mono (by with_reducible assumption) ?_)) | omega | (exact Below.size (by with_reducible assumption)) | (simp; done) | (simp; omega)))⟩
  · go_wp2
    go_ret
    exact ⟨by rw [hv.out, Int.min_eq_right (by omega)]; rfl, by (repeat' (first | (with_reducible exact Below.refl _ _) | (with_reducible assumption) | (with_reducible refine Below.drew ?_) | (with_reducible refine below_drewN ?_ _) | (with_reducible refine Below.setCell ?_ ?_ _) | (with_reducible refine Below.alloc ?_ ?_ _) | (refine Below.trans ?_ (Below.mono (by with_reducible assumption) ?_)) | omega | (exact Below.size (by with_reducible assumption)) | (simp; done) | (simp; omega)))⟩

set_option maxHeartbeats 1000000 in
theorem fits80 (P S s l : Int) (w : World) (hP : 2 ≤ P) (hP' : P ≤ 50) (hS : 0 ≤ S) (hs : 0 ≤ s) (hs' : s ≤ 10000) (hl : 0 ≤ l) (hl' : l < P) :
    Calls Try.prog 80 #[.agg #[.int .i64 P, .int .i64 S], .int .i64 s, .int .i64 l] w fun e w' => e = .returned (.bool (seemsB P S s l)) ∧ Below w.heap.size w w' := by
  have h0 := Int.emod_nonneg s (show P ≠ 0 by omega)
  have h1 := Int.emod_lt_of_pos s (show 0 < P by omega)
  have h2 := Int.emod_nonneg (l - s) (show P ≠ 0 by omega)
  have h3 := Int.emod_lt_of_pos (l - s) (show 0 < P by omega)
  have he : Hid ((l - s % P + P) % P = (l - s) % P) := by show _ = _; simp
  have hv : Hid (seemsB P S s l = (decide ((l - s) % P ≤ S) || decide (P - (l - s) % P ≤ S))) := by show _ = _; rw [← fits_seems hP hl hl' hS, ← he.out]; rfl
  clear he
  go_enter Try.func80, Try.ntmps80
  go_wp2
  go_quiet (fail)
  go_wp2
  all_goals
    go_ret
    refine ⟨?_, by (repeat' (first | (with_reducible exact Below.refl _ _) | (with_reducible assumption) | (with_reducible refine Below.drew ?_) | (with_reducible refine below_drewN ?_ _) | (with_reducible refine Below.setCell ?_ ?_ _) | (with_reducible refine Below.alloc ?_ ?_ _) | (refine Below.trans ?_ (Below.mono (by with_reducible assumption) ?_)) | omega | (exact Below.size (by with_reducible assumption)) | (simp; done) | (simp; omega)))⟩
    rw [hv.out]
    first
    | (have hx : (l - s) % P ≤ S := by assumption
       rw [decide_eq_true hx]; rfl)
    | rfl

end Go.Proofs.Ytfboiplpfkommaa
