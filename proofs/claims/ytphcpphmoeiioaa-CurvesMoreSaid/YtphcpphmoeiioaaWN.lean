/- Walks: middle. -/
import Derived.Test.YtphcpphmoeiioaaOpR
namespace Go.Proofs.Ytphcpphmoeiioaa
open Go.RowKit Go.Maps

/-- Half of both ends together, rounded down. -/
def midI (lo hi : Int) : Int := (lo + hi) / 2
theorem tdiv_two {n : Int} (h : n ≤ 0) : n.tdiv 2 = -((-n) / 2) := by
  have e : n = -(-n) := by omega
  have h2 := Int.neg_tdiv (-n) 2
  rw [Int.tdiv_eq_ediv_of_nonneg (a := -n) (b := 2) (by omega)] at h2
  rw [← e] at h2
  exact h2
theorem tmod_two {n : Int} (h : n ≤ 0) : n.tmod 2 = n + 2 * ((-n) / 2) := by
  have h1 := Int.mul_tdiv_add_tmod n 2
  rw [tdiv_two h] at h1
  omega
set_option maxHeartbeats 1000000 in
theorem middle61 (lo hi : Int) (w : World) (h1 : -100000 ≤ lo ∧ lo ≤ 100000) (h2 : -100000 ≤ hi ∧ hi ≤ 100000) :
    Calls Try.prog 61 #[.agg #[.int .i64 lo, .int .i64 hi]] w fun e w' => e = .returned (.int .i64 (midI lo hi)) ∧ Below w.heap.size w w' := by
  unfold midI
  go_enter Try.func61, Try.ntmps61
  go_wp2
  all_goals go_ret
  · rename_i h3 h4
    rw [tmod_two (by omega), bne_iff_ne] at h4
    refine ⟨ret_int ?_, by (repeat' (first | (with_reducible exact Below.refl _ _) | (with_reducible assumption) | (with_reducible refine Below.drew ?_) | (with_reducible refine below_drewN ?_ _) | (with_reducible refine Below.setCell ?_ ?_ _) | (with_reducible refine Below.alloc ?_ ?_ _) | (refine Below.trans ?_ (Below.mono (by with_reducible assumption) ?_)) | omega | (exact Below.size (by with_reducible assumption)) | (simp; done) | (simp; omega)))⟩
    rw [tdiv_two (by omega)]
    omega
  · rename_i h3 h4
    have h5 : (lo + hi).tmod 2 = 0 := by simpa using h4
    rw [tmod_two (by omega)] at h5
    refine ⟨ret_int ?_, by (repeat' (first | (with_reducible exact Below.refl _ _) | (with_reducible assumption) | (with_reducible refine Below.drew ?_) | (with_reducible refine below_drewN ?_ _) | (with_reducible refine Below.setCell ?_ ?_ _) | (with_reducible refine Below.alloc ?_ ?_ _) | (refine Below.trans ?_ (Below.mono (by with_reducible assumption) ?_)) | omega | (exact Below.size (by with_reducible assumption)) | (simp; done) | (simp; omega)))⟩
    rw [tdiv_two (by omega)]
    omega
  · exact ⟨ret_int (by omega), by (repeat' (first | (with_reducible exact Below.refl _ _) | (with_reducible assumption) | (with_reducible refine Below.drew ?_) | (with_reducible refine below_drewN ?_ _) | (with_reducible refine Below.setCell ?_ ?_ _) | (with_reducible refine Below.alloc ?_ ?_ _) | (refine Below.trans ?_ (Below.mono (by with_reducible assumption) ?_)) | omega | (exact Below.size (by with_reducible assumption)) | (simp; done) | (simp; omega)))⟩
end Go.Proofs.Ytphcpphmoeiioaa
