/- Walks of the leaf functions: within, abs, isRatio, reduced, floor. -/
import Derived.Test.YtfboiplpfkommaaProg
import Derived.Test.YtfboiplpfkommaaPure
import Derived.Test.YtfboiplpfkommaaKit
namespace Go.Proofs.Ytfboiplpfkommaa
open Go.RowKit

set_option maxHeartbeats 400000 in
theorem within26 (n lo hi : Int) (w : World) :
    Calls Try.prog 26 #[.int .i64 n, .int .i64 lo, .int .i64 hi] w fun e w' => e = .returned (.bool (btw n lo hi)) ∧ w = w' := by
  go_enter Try.func26, Try.ntmps26
  go_wp2
  all_goals go_ret
  · exact ⟨ret_bool (btw_t ‹_›).symm, rfl⟩
  · exact ⟨ret_bool (btw_f ‹_›).symm, rfl⟩

set_option maxHeartbeats 400000 in
theorem within53 (n lo hi : Int) (w : World) :
    Calls Try.prog 53 #[.int .i64 n, .int .i64 lo, .int .i64 hi] w fun e w' => e = .returned (.bool (btw n lo hi)) ∧ w = w' := by
  go_enter Try.func53, Try.ntmps53
  go_wp2
  all_goals go_ret
  · exact ⟨ret_bool (btw_t ‹_›).symm, rfl⟩
  · exact ⟨ret_bool (btw_f ‹_›).symm, rfl⟩

set_option maxHeartbeats 400000 in
theorem abs56 (n : Int) (w : World) (h1 : -9223372036854775807 ≤ n) (h2 : n ≤ 9223372036854775807) :
    Calls Try.prog 56 #[.int .i64 n] w fun e w' => e = .returned (.int .i64 n.natAbs) ∧ w = w' := by
  go_enter Try.func56, Try.ntmps56
  go_wp2
  all_goals
    go_ret
    exact ⟨ret_int (by omega), rfl⟩
set_option maxHeartbeats 400000 in
theorem size58 (n : Int) (w : World) (h1 : -9223372036854775807 ≤ n) (h2 : n ≤ 9223372036854775807) :
    Calls Try.prog 58 #[.int .i64 n] w fun e w' => e = .returned (.int .i64 n.natAbs) ∧ w = w' := by
  go_enter Try.func58, Try.ntmps58
  go_wp2
  all_goals
    go_ret
    exact ⟨ret_int (by omega), rfl⟩

set_option maxHeartbeats 400000 in
theorem isRatio16 (n d : Int) (w : World) :
    Calls Try.prog 16 #[.agg #[.int .i64 n, .int .i64 d]] w fun e w' => e = .returned (.bool (ratB n d)) ∧ Below w.heap.size w w' := by
  go_enter Try.func16, Try.ntmps16
  go_wp2_with (first | (go_at_call 26; refine (within26 _ _ _ _).mono ?_; rintro e w' ⟨rfl, rfl⟩))
  all_goals go_ret
  · exact ⟨ret_bool (ratB_t ‹_›).symm, (Below.refl _ _).alloc (Nat.le_refl _) _⟩
  · exact ⟨ret_bool (ratB_f ‹_›).symm, (Below.refl _ _).alloc (Nat.le_refl _) _⟩
set_option maxHeartbeats 400000 in
theorem isRatio52 (n d : Int) (w : World) :
    Calls Try.prog 52 #[.agg #[.int .i64 n, .int .i64 d]] w fun e w' => e = .returned (.bool (ratB n d)) ∧ Below w.heap.size w w' := by
  go_enter Try.func52, Try.ntmps52
  go_wp2_with (first | (go_at_call 53; refine (within53 _ _ _ _).mono ?_; rintro e w' ⟨rfl, rfl⟩))
  all_goals go_ret
  · exact ⟨ret_bool (ratB_t ‹_›).symm, (Below.refl _ _).alloc (Nat.le_refl _) _⟩
  · exact ⟨ret_bool (ratB_f ‹_›).symm, (Below.refl _ _).alloc (Nat.le_refl _) _⟩

set_option maxHeartbeats 400000 in
theorem reduced54 (n d : Int) (w : World) (h1 : -9223372036854775807 ≤ n) (h2 : n ≤ 9223372036854775807) (h3 : 1 ≤ d) (h4 : d ≤ 9223372036854775807) :
    Calls Try.prog 54 #[.int .i64 n, .int .i64 d] w fun e w' => e = .returned (.agg #[.int .i64 (redN n d), .int .i64 (redD n d)]) ∧ Below w.heap.size w w' := by
  have hg0 : Hid (Int.gcd n.natAbs d = Int.gcd n d) := gcd_abs n d
  go_enter Try.func54, Try.ntmps54
  go_wp2_with (first | (go_at_call 56; refine (abs56 _ _ (by omega) (by omega)).mono ?_; rintro e w' ⟨rfl, rfl⟩))
  go_loopw [5, 6] (fun a b wr => ∃ x y : Int, 0 ≤ x ∧ x ≤ 9223372036854775807 ∧ 0 ≤ y ∧ y ≤ 9223372036854775807 ∧ 1 ≤ x + y ∧ a = .int .i64 x ∧ b = .int .i64 y ∧ Hid (Int.gcd x y = Int.gcd n d) ∧ Below (w.heap.size + 1) (w.alloc (.cells #[.int .i64 0, .int .i64 0] 23)) wr) (fun _ b _ => (intOf b).toNat)
  case atStart => 
    exact ⟨_, _, by omega, by omega, by omega, by omega, by omega, rfl, rfl, hg0, Below.refl _ _⟩
  case round =>
    obtain ⟨x, y, hx1, hx2, hy1, hy2, hxy, rfl, rfl, hg, hb⟩ := hrel
    clear hg0
    by_cases hy : y = 0
    · subst hy
      obtain ⟨hc, hf⟩ := bcell hb
      have hz : w.heap.size < wr.heap.size := by have := hb.size; simp at this; omega
      have hgx : Hid (x = Int.gcd n d) := by have := hg.out; simp only [Int.gcd_zero_right] at this; show x = _; omega
      go_wp2
      go_region
      go_wp2
      refine bodyPost_ret (v := .agg #[.int .i64 (n.tdiv x), .int .i64 (d / x)]) (by simp [results, Try.results54, go_sem, *]) rfl ⟨?_, ?_⟩
      · rw [redN_eq hgx.out, redD_eq hgx.out]
      · exact (((((Below.refl _ _).alloc (Nat.le_refl _) _).trans (hb.mono (by omega))).setCell (by simp) _).setCell (by simp) _).drew
    · have hy' : 1 ≤ y := by omega
      go_wp2
      go_quiet (fail)
      go_wp2
      go_roundw
      case rel => 
        have e1 := Int.emod_lt_of_pos x (show 0 < y by omega)
        have e2 := Int.emod_nonneg x (show y ≠ 0 by omega)
        exact ⟨y, x % y, by omega, by omega, e2, by omega, by omega, rfl, rfl, (gcd_step' x y).trans hg.out, below_drewN hb _⟩
      case measure => 
        have e1 := Int.emod_lt_of_pos x (show 0 < y by omega)
        simp only [intOf]; omega

set_option maxHeartbeats 400000 in
theorem divisor59 (n d : Int) (w : World) (h1 : -9223372036854775807 ≤ n) (h2 : n ≤ 9223372036854775807) (h3 : 1 ≤ d) (h4 : d ≤ 9223372036854775807) :
    Calls Try.prog 59 #[.int .i64 n, .int .i64 d] w fun e w' => e = .returned (.int .i64 (Int.gcd n d)) ∧ Below w.heap.size w w' := by
  go_enter Try.func59, Try.ntmps59
  go_wp2
  go_loopw [0, 1] (fun a b wr => ∃ x y : Int, -9223372036854775807 ≤ x ∧ x ≤ 9223372036854775807 ∧ -9223372036854775807 ≤ y ∧ y ≤ 9223372036854775807 ∧ a = .int .i64 x ∧ b = .int .i64 y ∧ Hid (Int.gcd x y = Int.gcd n d) ∧ Below w.heap.size w wr) (fun _ b _ => (intOf b).natAbs)
  case atStart => 
    exact ⟨_, _, by omega, by omega, by omega, by omega, rfl, rfl, rfl, Below.refl _ _⟩
  case round =>
    obtain ⟨x, y, hx1, hx2, hy1, hy2, rfl, rfl, hg, hb⟩ := hrel
    by_cases hy : y = 0
    · subst hy
      have hgx : Hid ((x.natAbs : Int) = Int.gcd n d) := by have := hg.out; simp only [Int.gcd_zero_right] at this; show (x.natAbs : Int) = _; omega
      go_wp2_with (first | (go_at_call 58; refine (size58 _ _ (by omega) (by omega)).mono ?_; rintro e w' ⟨rfl, rfl⟩))
      go_ret
      exact ⟨ret_int hgx.out, hb⟩
    · have e1 := Int.natAbs_tmod x y
      have e2 := Nat.mod_lt x.natAbs (show 0 < y.natAbs by omega)
      have e3 : Hid ((x.tmod y).natAbs < y.natAbs) := by show (x.tmod y).natAbs < _; omega
      clear e1 e2
      go_wp2
      go_quiet (fail)
      go_wp2
      go_roundw
      case rel => 
        have := e3.out
        exact ⟨y, x.tmod y, by omega, by omega, by omega, by omega, rfl, rfl, (gcd_step x y).trans hg.out, below_drewN hb _⟩
      case measure => 
        exact e3.out

set_option maxHeartbeats 400000 in
theorem reduced19 (n d : Int) (w : World) (h1 : -9223372036854775807 ≤ n) (h2 : n ≤ 9223372036854775807) (h3 : 1 ≤ d) (h4 : d ≤ 9223372036854775807) :
    Calls Try.prog 19 #[.agg #[.int .i64 n, .int .i64 d]] w fun e w' => e = .returned (.agg #[.int .i64 (redN n d), .int .i64 (redD n d)]) ∧ Below w.heap.size w w' := by
  go_enter Try.func19, Try.ntmps19
  have hgp := gcd_pos n d h3
  have hgl : (Int.gcd n d : Int) ≤ d := Int.le_of_dvd (by omega) (Int.gcd_dvd_right n d)
  go_wp2_with (first | (go_at_call 59; refine (divisor59 _ _ _ (by omega) (by omega) (by omega) (by omega)).mono ?_; rintro e w1 ⟨rfl, hb⟩))
  obtain ⟨hc, hf⟩ := bcell hb
  have hz : w.heap.size + 1 < w1.heap.size := by have := hb.size; simp at this; omega
  go_wp2
  go_region
  go_wp2
  refine bodyPost_ret (v := .agg #[.int .i64 (n.tdiv (Int.gcd n d)), .int .i64 (d / (Int.gcd n d))]) (by simp [results, Try.results19, go_sem, *]) rfl ⟨?_, ?_⟩
  · rw [redN_eq rfl, redD_eq rfl]
  · exact ((((((Below.refl _ _).alloc (Nat.le_refl _) _).alloc (by simp) _).trans (hb.mono (by simp; omega))).setCell (by simp) _).setCell (by simp) _).drew

end Go.Proofs.Ytfboiplpfkommaa
