/- Walks: floor, Nearer. -/
import Derived.Test.YtfboiplpfkommaaWa
import Derived.Test.YtfboiplpfkommaaBestP
namespace Go.Proofs.Ytfboiplpfkommaa
open Go.RowKit

theorem floor_neg (n b : Int) (hb : 1 ≤ b) : -((-n + b - 1) / b) = n / b := by
  have h := (Int.ediv_emod_unique (a := -n + b - 1) (b := b) (r := b - 1 - n % b) (q := -(n / b)) (by omega)).2
  have e1 := Int.emod_nonneg n (show b ≠ 0 by omega)
  have e2 := Int.emod_lt_of_pos n (show 0 < b by omega)
  have e3 := Int.mul_ediv_add_emod n b
  have := h ⟨by rw [Int.mul_neg]; omega, by omega, by omega⟩
  omega

set_option maxHeartbeats 400000 in
theorem floor55 (n b : Int) (w : World) (h1 : -4000000000000000000 ≤ n) (h2 : n ≤ 4000000000000000000) (h3 : 1 ≤ b) (h4 : b ≤ 4000000000000000000) :
    Calls Try.prog 55 #[.int .i64 n, .int .i64 b] w fun e w' => e = .returned (.int .i64 (n / b)) ∧ w = w' := by
  have hq : Hid (n < 0 → -((-n + b - 1) / b) = n / b) := fun _ => floor_neg n b h3
  by_cases hn : n < 0
  · have e1 : 0 ≤ (-n + b - 1) / b := Int.ediv_nonneg (by omega) (by omega)
    have e2 : (-n + b - 1) / b ≤ -n + b - 1 := Int.ediv_le_self _ (by omega)
    go_enter Try.func55, Try.ntmps55
    go_wp2
    go_ret
    exact ⟨ret_int (hq.out hn), rfl⟩
  · go_enter Try.func55, Try.ntmps55
    go_wp2
    go_ret
    exact ⟨rfl, rfl⟩

theorem tdiv_floor (n b : Int) (hb : 1 ≤ b) (hn : n < 0) : (n.tdiv b * b ≤ n → n.tdiv b = n / b) ∧ (n < n.tdiv b * b → n.tdiv b - 1 = n / b) ∧ n ≤ n.tdiv b * b ∧ n.tdiv b * b ≤ 0 ∧ n ≤ n.tdiv b ∧ n.tdiv b ≤ 0 := by
  have e1 : n.tdiv b = -((-n) / b) := by
    have := Int.neg_tdiv (-n) b
    rw [Int.neg_neg] at this
    rw [this, Int.tdiv_eq_ediv_of_nonneg (by omega)]
  have e2 := Int.emod_nonneg (-n) (show b ≠ 0 by omega)
  have e3 := Int.emod_lt_of_pos (-n) (show 0 < b by omega)
  have e4 := Int.mul_ediv_add_emod (-n) b
  have e5 : n.tdiv b * b = -(b * (-n / b)) := by rw [e1, Int.neg_mul, Int.mul_comm]
  have e6 : 0 ≤ (-n) / b := Int.ediv_nonneg (by omega) (by omega)
  have e7 : (-n) / b ≤ -n := Int.ediv_le_self _ (by omega)
  have e8 : 0 ≤ b * (-n / b) := Int.mul_nonneg (by omega) e6
  refine ⟨fun h => ?_, fun h => ?_, by omega, by omega, by omega, by omega⟩
  · have := (Int.ediv_emod_unique (a := n) (b := b) (r := 0) (q := n.tdiv b) (by omega)).2 ⟨by rw [Int.mul_comm]; omega, by omega, by omega⟩
    omega
  · have := (Int.ediv_emod_unique (a := n) (b := b) (r := b - (-n) % b) (q := n.tdiv b - 1) (by omega)).2 ⟨by rw [Int.mul_sub, Int.mul_comm]; omega, by omega, by omega⟩
    omega

set_option maxHeartbeats 400000 in
theorem floor57 (n b : Int) (w : World) (h1 : -4000000000000000000 ≤ n) (h2 : n ≤ 4000000000000000000) (h3 : 1 ≤ b) (h4 : b ≤ 4000000000000000000) :
    Calls Try.prog 57 #[.int .i64 n, .int .i64 b] w fun e w' => e = .returned (.int .i64 (n / b)) ∧ w = w' := by
  by_cases hn : n < 0
  · obtain ⟨q1, q2, q3, q4, q5, q6⟩ := tdiv_floor n b h3 hn
    have hq1 := Lib.hid q1
    have hq2 := Lib.hid q2
    clear q1 q2
    go_enter Try.func57, Try.ntmps57
    go_wp2
    · go_ret
      exact ⟨ret_int (hq2.out (by assumption)), rfl⟩
    · go_ret
      exact ⟨ret_int (hq1.out (by assumption)), rfl⟩
  · have e1 : n / b * b ≤ n := Int.ediv_mul_le n (by omega)
    have e2 : 0 ≤ n / b * b := Int.mul_nonneg (Int.ediv_nonneg (by omega) (by omega)) (by omega)
    go_enter Try.func57, Try.ntmps57
    go_wp2
    go_ret
    exact ⟨rfl, rfl⟩

set_option maxHeartbeats 1000000 in
theorem nearer18 (pn pd qn qd rn rd : Int) (w : World)
    (a1 : -2000000000000000000 ≤ pn * rd) (a2 : pn * rd ≤ 2000000000000000000) (a3 : -2000000000000000000 ≤ rn * pd) (a4 : rn * pd ≤ 2000000000000000000)
    (b1 : -2000000000000000000 ≤ qn * rd) (b2 : qn * rd ≤ 2000000000000000000) (b3 : -2000000000000000000 ≤ rn * qd) (b4 : rn * qd ≤ 2000000000000000000)
    (c1 : -9000000000000000000 ≤ ((pn * rd - rn * pd).natAbs : Int) * qd) (c2 : ((pn * rd - rn * pd).natAbs : Int) * qd ≤ 9000000000000000000)
    (d1 : -9000000000000000000 ≤ ((qn * rd - rn * qd).natAbs : Int) * pd) (d2 : ((qn * rd - rn * qd).natAbs : Int) * pd ≤ 9000000000000000000) :
    Calls Try.prog 18 #[.agg #[.int .i64 pn, .int .i64 pd], .agg #[.int .i64 qn, .int .i64 qd], .agg #[.int .i64 rn, .int .i64 rd]] w fun e w' => e = .returned (.bool (nearB pn pd qn qd rn rd)) ∧ Below w.heap.size w w' := by
  go_enter Try.func18, Try.ntmps18
  go_wp2
  go_quiet ((go_at_call 58; exact quiet_left (size58 _ _ (by omega) (by omega))))
  go_wp2
  go_ret
  exact ⟨rfl, by (repeat' (first | (with_reducible exact Below.refl _ _) | (with_reducible assumption) | (with_reducible refine Below.drew ?_) | (with_reducible refine below_drewN ?_ _) | (with_reducible refine Below.setCell ?_ ?_ _) | (with_reducible refine Below.alloc ?_ ?_ _) | (refine Below.trans ?_ (Below.mono (by with_reducible assumption) ?_)) | omega | (exact Below.size (by with_reducible assumption)) | (simp; done) | (simp; omega)))⟩

end Go.Proofs.Ytfboiplpfkommaa
