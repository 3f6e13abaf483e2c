/- Walk: the theorem of the setting, what is not valid. -/
import Derived.Test.YtfboiplpfkommaaWs
import Derived.Test.YtfboiplpfkommaaWk
import Derived.Test.YtfboiplpfkommaaSetQ
namespace Go.Proofs.Ytfboiplpfkommaa
open Go.RowKit

set_option maxRecDepth 100000 in
set_option maxHeartbeats 16000000 in
theorem near7_1 (a b c d lo hi p q u v s : Int) (w : World) (HF : Hid ((armB a b c d lo hi && decide (400 < hi - lo)) = true)) :
    Calls Try.prog 7 #[.agg #[.int .i64 a, .int .i64 b, .int .i64 c, .int .i64 d, .int .i64 lo, .int .i64 hi], .agg #[.int .i64 p, .int .i64 q, .int .i64 u, .int .i64 v], .int .i64 s] w fun e w' => e = .returned (.bool true) ∧ Below w.heap.size w w' := by
  go_enter Try.func7, Try.ntmps7
  go_wp2_with fail
  refine (far24 _ _ _ _ _ _ _).mono ?_
  rw [HF.out]
  rintro e w1 ⟨rfl, hb1⟩
  (have hz1 := hb1.size; (try simp at hz1); have hc1_0 := fun o => (bcell hb1).1 (w.heap.size) o (by first | omega | (simp; done) | (simp; omega)); have hf1_0 := fun o => (bcell hb1).2 (w.heap.size) o (by first | omega | (simp; done) | (simp; omega)); have : w.heap.size < w1.heap.size := (by first | omega | (simp; done) | (simp; omega)); have : w.heap.size < w1.heap.size + 1 := (by first | omega | (simp; done) | (simp; omega)); have : w.heap.size < w1.heap.size + 2 := (by first | omega | (simp; done) | (simp; omega)); have : w.heap.size < w1.heap.size + 3 := (by first | omega | (simp; done) | (simp; omega)); have hc1_1 := fun o => (bcell hb1).1 (w.heap.size + 1) o (by first | omega | (simp; done) | (simp; omega)); have hf1_1 := fun o => (bcell hb1).2 (w.heap.size + 1) o (by first | omega | (simp; done) | (simp; omega)); have : w.heap.size + 1 < w1.heap.size := (by first | omega | (simp; done) | (simp; omega)); have : w.heap.size + 1 < w1.heap.size + 1 := (by first | omega | (simp; done) | (simp; omega)); have : w.heap.size + 1 < w1.heap.size + 2 := (by first | omega | (simp; done) | (simp; omega)); have : w.heap.size + 1 < w1.heap.size + 3 := (by first | omega | (simp; done) | (simp; omega)))
  go_wp2_with fail
  refine (works13 _).mono ?_
  rintro e w20 ⟨rfl, hb20⟩
  (have hz20 := hb20.size; (try simp at hz20))
  go_wp2
  go_ret
  exact ⟨rfl, by (repeat' (first | (with_reducible exact Below.refl _ _) | (with_reducible assumption) | (with_reducible refine Below.drew ?_) | (with_reducible refine below_drewN ?_ _) | (with_reducible refine Below.setCell ?_ ?_ _) | (with_reducible refine Below.alloc ?_ ?_ _) | (refine Below.trans ?_ (Below.mono (by with_reducible assumption) ?_)) | omega | (exact Below.size (by with_reducible assumption)) | (simp; done) | (simp; omega)))⟩


set_option maxRecDepth 100000 in
set_option maxHeartbeats 16000000 in
theorem near7_2 (a b c d lo hi p q u v s : Int) (w : World) (HF : Hid ((armB a b c d lo hi && decide (400 < hi - lo)) = false)) (HA : Hid (armB a b c d lo hi = false)) :
    Calls Try.prog 7 #[.agg #[.int .i64 a, .int .i64 b, .int .i64 c, .int .i64 d, .int .i64 lo, .int .i64 hi], .agg #[.int .i64 p, .int .i64 q, .int .i64 u, .int .i64 v], .int .i64 s] w fun e w' => e = .returned (.bool true) ∧ Below w.heap.size w w' := by
  go_enter Try.func7, Try.ntmps7
  go_wp2_with fail
  refine (far24 _ _ _ _ _ _ _).mono ?_
  rw [HF.out]
  rintro e w1 ⟨rfl, hb1⟩
  (have hz1 := hb1.size; (try simp at hz1); have hc1_0 := fun o => (bcell hb1).1 (w.heap.size) o (by first | omega | (simp; done) | (simp; omega)); have hf1_0 := fun o => (bcell hb1).2 (w.heap.size) o (by first | omega | (simp; done) | (simp; omega)); have : w.heap.size < w1.heap.size := (by first | omega | (simp; done) | (simp; omega)); have : w.heap.size < w1.heap.size + 1 := (by first | omega | (simp; done) | (simp; omega)); have : w.heap.size < w1.heap.size + 2 := (by first | omega | (simp; done) | (simp; omega)); have : w.heap.size < w1.heap.size + 3 := (by first | omega | (simp; done) | (simp; omega)); have hc1_1 := fun o => (bcell hb1).1 (w.heap.size + 1) o (by first | omega | (simp; done) | (simp; omega)); have hf1_1 := fun o => (bcell hb1).2 (w.heap.size + 1) o (by first | omega | (simp; done) | (simp; omega)); have : w.heap.size + 1 < w1.heap.size := (by first | omega | (simp; done) | (simp; omega)); have : w.heap.size + 1 < w1.heap.size + 1 := (by first | omega | (simp; done) | (simp; omega)); have : w.heap.size + 1 < w1.heap.size + 2 := (by first | omega | (simp; done) | (simp; omega)); have : w.heap.size + 1 < w1.heap.size + 3 := (by first | omega | (simp; done) | (simp; omega)))
  go_wp2_with fail
  refine (isArm25 _ _ _ _ _ _ _).mono ?_
  rw [HA.out]
  rintro e w2 ⟨rfl, hb2⟩
  (have hz2 := hb2.size; (try simp at hz2); have hc2_0 := fun o => (bcell hb2).1 (w.heap.size) o (by first | omega | (simp; done) | (simp; omega)); have hf2_0 := fun o => (bcell hb2).2 (w.heap.size) o (by first | omega | (simp; done) | (simp; omega)); have : w.heap.size < w2.heap.size := (by first | omega | (simp; done) | (simp; omega)); have : w.heap.size < w2.heap.size + 1 := (by first | omega | (simp; done) | (simp; omega)); have : w.heap.size < w2.heap.size + 2 := (by first | omega | (simp; done) | (simp; omega)); have : w.heap.size < w2.heap.size + 3 := (by first | omega | (simp; done) | (simp; omega)); have hc2_1 := fun o => (bcell hb2).1 (w.heap.size + 1) o (by first | omega | (simp; done) | (simp; omega)); have hf2_1 := fun o => (bcell hb2).2 (w.heap.size + 1) o (by first | omega | (simp; done) | (simp; omega)); have : w.heap.size + 1 < w2.heap.size := (by first | omega | (simp; done) | (simp; omega)); have : w.heap.size + 1 < w2.heap.size + 1 := (by first | omega | (simp; done) | (simp; omega)); have : w.heap.size + 1 < w2.heap.size + 2 := (by first | omega | (simp; done) | (simp; omega)); have : w.heap.size + 1 < w2.heap.size + 3 := (by first | omega | (simp; done) | (simp; omega)))
  go_wp2_with fail
  refine (works13 _).mono ?_
  rintro e w20 ⟨rfl, hb20⟩
  (have hz20 := hb20.size; (try simp at hz20))
  go_wp2
  go_ret
  exact ⟨rfl, by (repeat' (first | (with_reducible exact Below.refl _ _) | (with_reducible assumption) | (with_reducible refine Below.drew ?_) | (with_reducible refine below_drewN ?_ _) | (with_reducible refine Below.setCell ?_ ?_ _) | (with_reducible refine Below.alloc ?_ ?_ _) | (refine Below.trans ?_ (Below.mono (by with_reducible assumption) ?_)) | omega | (exact Below.size (by with_reducible assumption)) | (simp; done) | (simp; omega)))⟩


set_option maxRecDepth 100000 in
set_option maxHeartbeats 16000000 in
theorem near7_3 (a b c d lo hi p q u v s : Int) (w : World) (HF : Hid ((armB a b c d lo hi && decide (400 < hi - lo)) = false)) (HA : Hid (armB a b c d lo hi = true)) (HR : Hid (ratB p q = false)) :
    Calls Try.prog 7 #[.agg #[.int .i64 a, .int .i64 b, .int .i64 c, .int .i64 d, .int .i64 lo, .int .i64 hi], .agg #[.int .i64 p, .int .i64 q, .int .i64 u, .int .i64 v], .int .i64 s] w fun e w' => e = .returned (.bool true) ∧ Below w.heap.size w w' := by
  go_enter Try.func7, Try.ntmps7
  go_wp2_with fail
  refine (far24 _ _ _ _ _ _ _).mono ?_
  rw [HF.out]
  rintro e w1 ⟨rfl, hb1⟩
  (have hz1 := hb1.size; (try simp at hz1); have hc1_0 := fun o => (bcell hb1).1 (w.heap.size) o (by first | omega | (simp; done) | (simp; omega)); have hf1_0 := fun o => (bcell hb1).2 (w.heap.size) o (by first | omega | (simp; done) | (simp; omega)); have : w.heap.size < w1.heap.size := (by first | omega | (simp; done) | (simp; omega)); have : w.heap.size < w1.heap.size + 1 := (by first | omega | (simp; done) | (simp; omega)); have : w.heap.size < w1.heap.size + 2 := (by first | omega | (simp; done) | (simp; omega)); have : w.heap.size < w1.heap.size + 3 := (by first | omega | (simp; done) | (simp; omega)); have hc1_1 := fun o => (bcell hb1).1 (w.heap.size + 1) o (by first | omega | (simp; done) | (simp; omega)); have hf1_1 := fun o => (bcell hb1).2 (w.heap.size + 1) o (by first | omega | (simp; done) | (simp; omega)); have : w.heap.size + 1 < w1.heap.size := (by first | omega | (simp; done) | (simp; omega)); have : w.heap.size + 1 < w1.heap.size + 1 := (by first | omega | (simp; done) | (simp; omega)); have : w.heap.size + 1 < w1.heap.size + 2 := (by first | omega | (simp; done) | (simp; omega)); have : w.heap.size + 1 < w1.heap.size + 3 := (by first | omega | (simp; done) | (simp; omega)))
  go_wp2_with fail
  refine (isArm25 _ _ _ _ _ _ _).mono ?_
  rw [HA.out]
  rintro e w2 ⟨rfl, hb2⟩
  (have hz2 := hb2.size; (try simp at hz2); have hc2_0 := fun o => (bcell hb2).1 (w.heap.size) o (by first | omega | (simp; done) | (simp; omega)); have hf2_0 := fun o => (bcell hb2).2 (w.heap.size) o (by first | omega | (simp; done) | (simp; omega)); have : w.heap.size < w2.heap.size := (by first | omega | (simp; done) | (simp; omega)); have : w.heap.size < w2.heap.size + 1 := (by first | omega | (simp; done) | (simp; omega)); have : w.heap.size < w2.heap.size + 2 := (by first | omega | (simp; done) | (simp; omega)); have : w.heap.size < w2.heap.size + 3 := (by first | omega | (simp; done) | (simp; omega)); have hc2_1 := fun o => (bcell hb2).1 (w.heap.size + 1) o (by first | omega | (simp; done) | (simp; omega)); have hf2_1 := fun o => (bcell hb2).2 (w.heap.size + 1) o (by first | omega | (simp; done) | (simp; omega)); have : w.heap.size + 1 < w2.heap.size := (by first | omega | (simp; done) | (simp; omega)); have : w.heap.size + 1 < w2.heap.size + 1 := (by first | omega | (simp; done) | (simp; omega)); have : w.heap.size + 1 < w2.heap.size + 2 := (by first | omega | (simp; done) | (simp; omega)); have : w.heap.size + 1 < w2.heap.size + 3 := (by first | omega | (simp; done) | (simp; omega)))
  go_wp2_with fail
  refine (isRatio16 _ _ _).mono ?_
  rw [HR.out]
  rintro e w3 ⟨rfl, hb3⟩
  (have hz3 := hb3.size; (try simp at hz3); have hc3_0 := fun o => (bcell hb3).1 (w.heap.size) o (by first | omega | (simp; done) | (simp; omega)); have hf3_0 := fun o => (bcell hb3).2 (w.heap.size) o (by first | omega | (simp; done) | (simp; omega)); have : w.heap.size < w3.heap.size := (by first | omega | (simp; done) | (simp; omega)); have : w.heap.size < w3.heap.size + 1 := (by first | omega | (simp; done) | (simp; omega)); have : w.heap.size < w3.heap.size + 2 := (by first | omega | (simp; done) | (simp; omega)); have : w.heap.size < w3.heap.size + 3 := (by first | omega | (simp; done) | (simp; omega)); have hc3_1 := fun o => (bcell hb3).1 (w.heap.size + 1) o (by first | omega | (simp; done) | (simp; omega)); have hf3_1 := fun o => (bcell hb3).2 (w.heap.size + 1) o (by first | omega | (simp; done) | (simp; omega)); have : w.heap.size + 1 < w3.heap.size := (by first | omega | (simp; done) | (simp; omega)); have : w.heap.size + 1 < w3.heap.size + 1 := (by first | omega | (simp; done) | (simp; omega)); have : w.heap.size + 1 < w3.heap.size + 2 := (by first | omega | (simp; done) | (simp; omega)); have : w.heap.size + 1 < w3.heap.size + 3 := (by first | omega | (simp; done) | (simp; omega)))
  go_wp2_with fail
  refine (works13 _).mono ?_
  rintro e w20 ⟨rfl, hb20⟩
  (have hz20 := hb20.size; (try simp at hz20))
  go_wp2
  go_ret
  exact ⟨rfl, by (repeat' (first | (with_reducible exact Below.refl _ _) | (with_reducible assumption) | (with_reducible refine Below.drew ?_) | (with_reducible refine below_drewN ?_ _) | (with_reducible refine Below.setCell ?_ ?_ _) | (with_reducible refine Below.alloc ?_ ?_ _) | (refine Below.trans ?_ (Below.mono (by with_reducible assumption) ?_)) | omega | (exact Below.size (by with_reducible assumption)) | (simp; done) | (simp; omega)))⟩


set_option maxRecDepth 100000 in
set_option maxHeartbeats 16000000 in
theorem near7_4 (a b c d lo hi p q u v s : Int) (w : World) (HF : Hid ((armB a b c d lo hi && decide (400 < hi - lo)) = false)) (HA : Hid (armB a b c d lo hi = true)) (HR : Hid (ratB p q = true)) (HQ : Hid (ratB u v = false)) :
    Calls Try.prog 7 #[.agg #[.int .i64 a, .int .i64 b, .int .i64 c, .int .i64 d, .int .i64 lo, .int .i64 hi], .agg #[.int .i64 p, .int .i64 q, .int .i64 u, .int .i64 v], .int .i64 s] w fun e w' => e = .returned (.bool true) ∧ Below w.heap.size w w' := by
  go_enter Try.func7, Try.ntmps7
  go_wp2_with fail
  refine (far24 _ _ _ _ _ _ _).mono ?_
  rw [HF.out]
  rintro e w1 ⟨rfl, hb1⟩
  (have hz1 := hb1.size; (try simp at hz1); have hc1_0 := fun o => (bcell hb1).1 (w.heap.size) o (by first | omega | (simp; done) | (simp; omega)); have hf1_0 := fun o => (bcell hb1).2 (w.heap.size) o (by first | omega | (simp; done) | (simp; omega)); have : w.heap.size < w1.heap.size := (by first | omega | (simp; done) | (simp; omega)); have : w.heap.size < w1.heap.size + 1 := (by first | omega | (simp; done) | (simp; omega)); have : w.heap.size < w1.heap.size + 2 := (by first | omega | (simp; done) | (simp; omega)); have : w.heap.size < w1.heap.size + 3 := (by first | omega | (simp; done) | (simp; omega)); have hc1_1 := fun o => (bcell hb1).1 (w.heap.size + 1) o (by first | omega | (simp; done) | (simp; omega)); have hf1_1 := fun o => (bcell hb1).2 (w.heap.size + 1) o (by first | omega | (simp; done) | (simp; omega)); have : w.heap.size + 1 < w1.heap.size := (by first | omega | (simp; done) | (simp; omega)); have : w.heap.size + 1 < w1.heap.size + 1 := (by first | omega | (simp; done) | (simp; omega)); have : w.heap.size + 1 < w1.heap.size + 2 := (by first | omega | (simp; done) | (simp; omega)); have : w.heap.size + 1 < w1.heap.size + 3 := (by first | omega | (simp; done) | (simp; omega)))
  go_wp2_with fail
  refine (isArm25 _ _ _ _ _ _ _).mono ?_
  rw [HA.out]
  rintro e w2 ⟨rfl, hb2⟩
  (have hz2 := hb2.size; (try simp at hz2); have hc2_0 := fun o => (bcell hb2).1 (w.heap.size) o (by first | omega | (simp; done) | (simp; omega)); have hf2_0 := fun o => (bcell hb2).2 (w.heap.size) o (by first | omega | (simp; done) | (simp; omega)); have : w.heap.size < w2.heap.size := (by first | omega | (simp; done) | (simp; omega)); have : w.heap.size < w2.heap.size + 1 := (by first | omega | (simp; done) | (simp; omega)); have : w.heap.size < w2.heap.size + 2 := (by first | omega | (simp; done) | (simp; omega)); have : w.heap.size < w2.heap.size + 3 := (by first | omega | (simp; done) | (simp; omega)); have hc2_1 := fun o => (bcell hb2).1 (w.heap.size + 1) o (by first | omega | (simp; done) | (simp; omega)); have hf2_1 := fun o => (bcell hb2).2 (w.heap.size + 1) o (by first | omega | (simp; done) | (simp; omega)); have : w.heap.size + 1 < w2.heap.size := (by first | omega | (simp; done) | (simp; omega)); have : w.heap.size + 1 < w2.heap.size + 1 := (by first | omega | (simp; done) | (simp; omega)); have : w.heap.size + 1 < w2.heap.size + 2 := (by first | omega | (simp; done) | (simp; omega)); have : w.heap.size + 1 < w2.heap.size + 3 := (by first | omega | (simp; done) | (simp; omega)))
  go_wp2_with fail
  refine (isRatio16 _ _ _).mono ?_
  rw [HR.out]
  rintro e w3 ⟨rfl, hb3⟩
  (have hz3 := hb3.size; (try simp at hz3); have hc3_0 := fun o => (bcell hb3).1 (w.heap.size) o (by first | omega | (simp; done) | (simp; omega)); have hf3_0 := fun o => (bcell hb3).2 (w.heap.size) o (by first | omega | (simp; done) | (simp; omega)); have : w.heap.size < w3.heap.size := (by first | omega | (simp; done) | (simp; omega)); have : w.heap.size < w3.heap.size + 1 := (by first | omega | (simp; done) | (simp; omega)); have : w.heap.size < w3.heap.size + 2 := (by first | omega | (simp; done) | (simp; omega)); have : w.heap.size < w3.heap.size + 3 := (by first | omega | (simp; done) | (simp; omega)); have hc3_1 := fun o => (bcell hb3).1 (w.heap.size + 1) o (by first | omega | (simp; done) | (simp; omega)); have hf3_1 := fun o => (bcell hb3).2 (w.heap.size + 1) o (by first | omega | (simp; done) | (simp; omega)); have : w.heap.size + 1 < w3.heap.size := (by first | omega | (simp; done) | (simp; omega)); have : w.heap.size + 1 < w3.heap.size + 1 := (by first | omega | (simp; done) | (simp; omega)); have : w.heap.size + 1 < w3.heap.size + 2 := (by first | omega | (simp; done) | (simp; omega)); have : w.heap.size + 1 < w3.heap.size + 3 := (by first | omega | (simp; done) | (simp; omega)))
  go_wp2_with fail
  refine (isRatio16 _ _ _).mono ?_
  rw [HQ.out]
  rintro e w4 ⟨rfl, hb4⟩
  (have hz4 := hb4.size; (try simp at hz4); have hc4_0 := fun o => (bcell hb4).1 (w.heap.size) o (by first | omega | (simp; done) | (simp; omega)); have hf4_0 := fun o => (bcell hb4).2 (w.heap.size) o (by first | omega | (simp; done) | (simp; omega)); have : w.heap.size < w4.heap.size := (by first | omega | (simp; done) | (simp; omega)); have : w.heap.size < w4.heap.size + 1 := (by first | omega | (simp; done) | (simp; omega)); have : w.heap.size < w4.heap.size + 2 := (by first | omega | (simp; done) | (simp; omega)); have : w.heap.size < w4.heap.size + 3 := (by first | omega | (simp; done) | (simp; omega)); have hc4_1 := fun o => (bcell hb4).1 (w.heap.size + 1) o (by first | omega | (simp; done) | (simp; omega)); have hf4_1 := fun o => (bcell hb4).2 (w.heap.size + 1) o (by first | omega | (simp; done) | (simp; omega)); have : w.heap.size + 1 < w4.heap.size := (by first | omega | (simp; done) | (simp; omega)); have : w.heap.size + 1 < w4.heap.size + 1 := (by first | omega | (simp; done) | (simp; omega)); have : w.heap.size + 1 < w4.heap.size + 2 := (by first | omega | (simp; done) | (simp; omega)); have : w.heap.size + 1 < w4.heap.size + 3 := (by first | omega | (simp; done) | (simp; omega)))
  go_wp2_with fail
  refine (works13 _).mono ?_
  rintro e w20 ⟨rfl, hb20⟩
  (have hz20 := hb20.size; (try simp at hz20))
  go_wp2
  go_ret
  exact ⟨rfl, by (repeat' (first | (with_reducible exact Below.refl _ _) | (with_reducible assumption) | (with_reducible refine Below.drew ?_) | (with_reducible refine below_drewN ?_ _) | (with_reducible refine Below.setCell ?_ ?_ _) | (with_reducible refine Below.alloc ?_ ?_ _) | (refine Below.trans ?_ (Below.mono (by with_reducible assumption) ?_)) | omega | (exact Below.size (by with_reducible assumption)) | (simp; done) | (simp; omega)))⟩


set_option maxRecDepth 100000 in
set_option maxHeartbeats 16000000 in
theorem near7_5 (a b c d lo hi p q u v s : Int) (w : World) (HF : Hid ((armB a b c d lo hi && decide (400 < hi - lo)) = false)) (HA : Hid (armB a b c d lo hi = true)) (HR : Hid (ratB p q = true)) (HQ : Hid (ratB u v = true)) (h1 : p ≤ 0) :
    Calls Try.prog 7 #[.agg #[.int .i64 a, .int .i64 b, .int .i64 c, .int .i64 d, .int .i64 lo, .int .i64 hi], .agg #[.int .i64 p, .int .i64 q, .int .i64 u, .int .i64 v], .int .i64 s] w fun e w' => e = .returned (.bool true) ∧ Below w.heap.size w w' := by
  go_enter Try.func7, Try.ntmps7
  go_wp2_with fail
  refine (far24 _ _ _ _ _ _ _).mono ?_
  rw [HF.out]
  rintro e w1 ⟨rfl, hb1⟩
  (have hz1 := hb1.size; (try simp at hz1); have hc1_0 := fun o => (bcell hb1).1 (w.heap.size) o (by first | omega | (simp; done) | (simp; omega)); have hf1_0 := fun o => (bcell hb1).2 (w.heap.size) o (by first | omega | (simp; done) | (simp; omega)); have : w.heap.size < w1.heap.size := (by first | omega | (simp; done) | (simp; omega)); have : w.heap.size < w1.heap.size + 1 := (by first | omega | (simp; done) | (simp; omega)); have : w.heap.size < w1.heap.size + 2 := (by first | omega | (simp; done) | (simp; omega)); have : w.heap.size < w1.heap.size + 3 := (by first | omega | (simp; done) | (simp; omega)); have hc1_1 := fun o => (bcell hb1).1 (w.heap.size + 1) o (by first | omega | (simp; done) | (simp; omega)); have hf1_1 := fun o => (bcell hb1).2 (w.heap.size + 1) o (by first | omega | (simp; done) | (simp; omega)); have : w.heap.size + 1 < w1.heap.size := (by first | omega | (simp; done) | (simp; omega)); have : w.heap.size + 1 < w1.heap.size + 1 := (by first | omega | (simp; done) | (simp; omega)); have : w.heap.size + 1 < w1.heap.size + 2 := (by first | omega | (simp; done) | (simp; omega)); have : w.heap.size + 1 < w1.heap.size + 3 := (by first | omega | (simp; done) | (simp; omega)))
  go_wp2_with fail
  refine (isArm25 _ _ _ _ _ _ _).mono ?_
  rw [HA.out]
  rintro e w2 ⟨rfl, hb2⟩
  (have hz2 := hb2.size; (try simp at hz2); have hc2_0 := fun o => (bcell hb2).1 (w.heap.size) o (by first | omega | (simp; done) | (simp; omega)); have hf2_0 := fun o => (bcell hb2).2 (w.heap.size) o (by first | omega | (simp; done) | (simp; omega)); have : w.heap.size < w2.heap.size := (by first | omega | (simp; done) | (simp; omega)); have : w.heap.size < w2.heap.size + 1 := (by first | omega | (simp; done) | (simp; omega)); have : w.heap.size < w2.heap.size + 2 := (by first | omega | (simp; done) | (simp; omega)); have : w.heap.size < w2.heap.size + 3 := (by first | omega | (simp; done) | (simp; omega)); have hc2_1 := fun o => (bcell hb2).1 (w.heap.size + 1) o (by first | omega | (simp; done) | (simp; omega)); have hf2_1 := fun o => (bcell hb2).2 (w.heap.size + 1) o (by first | omega | (simp; done) | (simp; omega)); have : w.heap.size + 1 < w2.heap.size := (by first | omega | (simp; done) | (simp; omega)); have : w.heap.size + 1 < w2.heap.size + 1 := (by first | omega | (simp; done) | (simp; omega)); have : w.heap.size + 1 < w2.heap.size + 2 := (by first | omega | (simp; done) | (simp; omega)); have : w.heap.size + 1 < w2.heap.size + 3 := (by first | omega | (simp; done) | (simp; omega)))
  go_wp2_with fail
  refine (isRatio16 _ _ _).mono ?_
  rw [HR.out]
  rintro e w3 ⟨rfl, hb3⟩
  (have hz3 := hb3.size; (try simp at hz3); have hc3_0 := fun o => (bcell hb3).1 (w.heap.size) o (by first | omega | (simp; done) | (simp; omega)); have hf3_0 := fun o => (bcell hb3).2 (w.heap.size) o (by first | omega | (simp; done) | (simp; omega)); have : w.heap.size < w3.heap.size := (by first | omega | (simp; done) | (simp; omega)); have : w.heap.size < w3.heap.size + 1 := (by first | omega | (simp; done) | (simp; omega)); have : w.heap.size < w3.heap.size + 2 := (by first | omega | (simp; done) | (simp; omega)); have : w.heap.size < w3.heap.size + 3 := (by first | omega | (simp; done) | (simp; omega)); have hc3_1 := fun o => (bcell hb3).1 (w.heap.size + 1) o (by first | omega | (simp; done) | (simp; omega)); have hf3_1 := fun o => (bcell hb3).2 (w.heap.size + 1) o (by first | omega | (simp; done) | (simp; omega)); have : w.heap.size + 1 < w3.heap.size := (by first | omega | (simp; done) | (simp; omega)); have : w.heap.size + 1 < w3.heap.size + 1 := (by first | omega | (simp; done) | (simp; omega)); have : w.heap.size + 1 < w3.heap.size + 2 := (by first | omega | (simp; done) | (simp; omega)); have : w.heap.size + 1 < w3.heap.size + 3 := (by first | omega | (simp; done) | (simp; omega)))
  go_wp2_with fail
  refine (isRatio16 _ _ _).mono ?_
  rw [HQ.out]
  rintro e w4 ⟨rfl, hb4⟩
  (have hz4 := hb4.size; (try simp at hz4); have hc4_0 := fun o => (bcell hb4).1 (w.heap.size) o (by first | omega | (simp; done) | (simp; omega)); have hf4_0 := fun o => (bcell hb4).2 (w.heap.size) o (by first | omega | (simp; done) | (simp; omega)); have : w.heap.size < w4.heap.size := (by first | omega | (simp; done) | (simp; omega)); have : w.heap.size < w4.heap.size + 1 := (by first | omega | (simp; done) | (simp; omega)); have : w.heap.size < w4.heap.size + 2 := (by first | omega | (simp; done) | (simp; omega)); have : w.heap.size < w4.heap.size + 3 := (by first | omega | (simp; done) | (simp; omega)); have hc4_1 := fun o => (bcell hb4).1 (w.heap.size + 1) o (by first | omega | (simp; done) | (simp; omega)); have hf4_1 := fun o => (bcell hb4).2 (w.heap.size + 1) o (by first | omega | (simp; done) | (simp; omega)); have : w.heap.size + 1 < w4.heap.size := (by first | omega | (simp; done) | (simp; omega)); have : w.heap.size + 1 < w4.heap.size + 1 := (by first | omega | (simp; done) | (simp; omega)); have : w.heap.size + 1 < w4.heap.size + 2 := (by first | omega | (simp; done) | (simp; omega)); have : w.heap.size + 1 < w4.heap.size + 3 := (by first | omega | (simp; done) | (simp; omega)))
  go_wp2_with fail
  refine (works13 _).mono ?_
  rintro e w20 ⟨rfl, hb20⟩
  (have hz20 := hb20.size; (try simp at hz20))
  go_wp2
  go_ret
  exact ⟨rfl, by (repeat' (first | (with_reducible exact Below.refl _ _) | (with_reducible assumption) | (with_reducible refine Below.drew ?_) | (with_reducible refine below_drewN ?_ _) | (with_reducible refine Below.setCell ?_ ?_ _) | (with_reducible refine Below.alloc ?_ ?_ _) | (refine Below.trans ?_ (Below.mono (by with_reducible assumption) ?_)) | omega | (exact Below.size (by with_reducible assumption)) | (simp; done) | (simp; omega)))⟩


set_option maxRecDepth 100000 in
set_option maxHeartbeats 16000000 in
theorem near7_6 (a b c d lo hi p q u v s : Int) (w : World) (HF : Hid ((armB a b c d lo hi && decide (400 < hi - lo)) = false)) (HA : Hid (armB a b c d lo hi = true)) (HR : Hid (ratB p q = true)) (HQ : Hid (ratB u v = true)) (h1 : 0 < p) (h2 : u ≤ 0) :
    Calls Try.prog 7 #[.agg #[.int .i64 a, .int .i64 b, .int .i64 c, .int .i64 d, .int .i64 lo, .int .i64 hi], .agg #[.int .i64 p, .int .i64 q, .int .i64 u, .int .i64 v], .int .i64 s] w fun e w' => e = .returned (.bool true) ∧ Below w.heap.size w w' := by
  go_enter Try.func7, Try.ntmps7
  go_wp2_with fail
  refine (far24 _ _ _ _ _ _ _).mono ?_
  rw [HF.out]
  rintro e w1 ⟨rfl, hb1⟩
  (have hz1 := hb1.size; (try simp at hz1); have hc1_0 := fun o => (bcell hb1).1 (w.heap.size) o (by first | omega | (simp; done) | (simp; omega)); have hf1_0 := fun o => (bcell hb1).2 (w.heap.size) o (by first | omega | (simp; done) | (simp; omega)); have : w.heap.size < w1.heap.size := (by first | omega | (simp; done) | (simp; omega)); have : w.heap.size < w1.heap.size + 1 := (by first | omega | (simp; done) | (simp; omega)); have : w.heap.size < w1.heap.size + 2 := (by first | omega | (simp; done) | (simp; omega)); have : w.heap.size < w1.heap.size + 3 := (by first | omega | (simp; done) | (simp; omega)); have hc1_1 := fun o => (bcell hb1).1 (w.heap.size + 1) o (by first | omega | (simp; done) | (simp; omega)); have hf1_1 := fun o => (bcell hb1).2 (w.heap.size + 1) o (by first | omega | (simp; done) | (simp; omega)); have : w.heap.size + 1 < w1.heap.size := (by first | omega | (simp; done) | (simp; omega)); have : w.heap.size + 1 < w1.heap.size + 1 := (by first | omega | (simp; done) | (simp; omega)); have : w.heap.size + 1 < w1.heap.size + 2 := (by first | omega | (simp; done) | (simp; omega)); have : w.heap.size + 1 < w1.heap.size + 3 := (by first | omega | (simp; done) | (simp; omega)))
  go_wp2_with fail
  refine (isArm25 _ _ _ _ _ _ _).mono ?_
  rw [HA.out]
  rintro e w2 ⟨rfl, hb2⟩
  (have hz2 := hb2.size; (try simp at hz2); have hc2_0 := fun o => (bcell hb2).1 (w.heap.size) o (by first | omega | (simp; done) | (simp; omega)); have hf2_0 := fun o => (bcell hb2).2 (w.heap.size) o (by first | omega | (simp; done) | (simp; omega)); have : w.heap.size < w2.heap.size := (by first | omega | (simp; done) | (simp; omega)); have : w.heap.size < w2.heap.size + 1 := (by first | omega | (simp; done) | (simp; omega)); have : w.heap.size < w2.heap.size + 2 := (by first | omega | (simp; done) | (simp; omega)); have : w.heap.size < w2.heap.size + 3 := (by first | omega | (simp; done) | (simp; omega)); have hc2_1 := fun o => (bcell hb2).1 (w.heap.size + 1) o (by first | omega | (simp; done) | (simp; omega)); have hf2_1 := fun o => (bcell hb2).2 (w.heap.size + 1) o (by first | omega | (simp; done) | (simp; omega)); have : w.heap.size + 1 < w2.heap.size := (by first | omega | (simp; done) | (simp; omega)); have : w.heap.size + 1 < w2.heap.size + 1 := (by first | omega | (simp; done) | (simp; omega)); have : w.heap.size + 1 < w2.heap.size + 2 := (by first | omega | (simp; done) | (simp; omega)); have : w.heap.size + 1 < w2.heap.size + 3 := (by first | omega | (simp; done) | (simp; omega)))
  go_wp2_with fail
  refine (isRatio16 _ _ _).mono ?_
  rw [HR.out]
  rintro e w3 ⟨rfl, hb3⟩
  (have hz3 := hb3.size; (try simp at hz3); have hc3_0 := fun o => (bcell hb3).1 (w.heap.size) o (by first | omega | (simp; done) | (simp; omega)); have hf3_0 := fun o => (bcell hb3).2 (w.heap.size) o (by first | omega | (simp; done) | (simp; omega)); have : w.heap.size < w3.heap.size := (by first | omega | (simp; done) | (simp; omega)); have : w.heap.size < w3.heap.size + 1 := (by first | omega | (simp; done) | (simp; omega)); have : w.heap.size < w3.heap.size + 2 := (by first | omega | (simp; done) | (simp; omega)); have : w.heap.size < w3.heap.size + 3 := (by first | omega | (simp; done) | (simp; omega)); have hc3_1 := fun o => (bcell hb3).1 (w.heap.size + 1) o (by first | omega | (simp; done) | (simp; omega)); have hf3_1 := fun o => (bcell hb3).2 (w.heap.size + 1) o (by first | omega | (simp; done) | (simp; omega)); have : w.heap.size + 1 < w3.heap.size := (by first | omega | (simp; done) | (simp; omega)); have : w.heap.size + 1 < w3.heap.size + 1 := (by first | omega | (simp; done) | (simp; omega)); have : w.heap.size + 1 < w3.heap.size + 2 := (by first | omega | (simp; done) | (simp; omega)); have : w.heap.size + 1 < w3.heap.size + 3 := (by first | omega | (simp; done) | (simp; omega)))
  go_wp2_with fail
  refine (isRatio16 _ _ _).mono ?_
  rw [HQ.out]
  rintro e w4 ⟨rfl, hb4⟩
  (have hz4 := hb4.size; (try simp at hz4); have hc4_0 := fun o => (bcell hb4).1 (w.heap.size) o (by first | omega | (simp; done) | (simp; omega)); have hf4_0 := fun o => (bcell hb4).2 (w.heap.size) o (by first | omega | (simp; done) | (simp; omega)); have : w.heap.size < w4.heap.size := (by first | omega | (simp; done) | (simp; omega)); have : w.heap.size < w4.heap.size + 1 := (by first | omega | (simp; done) | (simp; omega)); have : w.heap.size < w4.heap.size + 2 := (by first | omega | (simp; done) | (simp; omega)); have : w.heap.size < w4.heap.size + 3 := (by first | omega | (simp; done) | (simp; omega)); have hc4_1 := fun o => (bcell hb4).1 (w.heap.size + 1) o (by first | omega | (simp; done) | (simp; omega)); have hf4_1 := fun o => (bcell hb4).2 (w.heap.size + 1) o (by first | omega | (simp; done) | (simp; omega)); have : w.heap.size + 1 < w4.heap.size := (by first | omega | (simp; done) | (simp; omega)); have : w.heap.size + 1 < w4.heap.size + 1 := (by first | omega | (simp; done) | (simp; omega)); have : w.heap.size + 1 < w4.heap.size + 2 := (by first | omega | (simp; done) | (simp; omega)); have : w.heap.size + 1 < w4.heap.size + 3 := (by first | omega | (simp; done) | (simp; omega)))
  go_wp2_with fail
  refine (works13 _).mono ?_
  rintro e w20 ⟨rfl, hb20⟩
  (have hz20 := hb20.size; (try simp at hz20))
  go_wp2
  go_ret
  exact ⟨rfl, by (repeat' (first | (with_reducible exact Below.refl _ _) | (with_reducible assumption) | (with_reducible refine Below.drew ?_) | (with_reducible refine below_drewN ?_ _) | (with_reducible refine Below.setCell ?_ ?_ _) | (with_reducible refine Below.alloc ?_ ?_ _) | (refine Below.trans ?_ (Below.mono (by with_reducible assumption) ?_)) | omega | (exact Below.size (by with_reducible assumption)) | (simp; done) | (simp; omega)))⟩


set_option maxRecDepth 100000 in
set_option maxHeartbeats 16000000 in
theorem near7_7 (a b c d lo hi p q u v s : Int) (w : World) (HF : Hid ((armB a b c d lo hi && decide (400 < hi - lo)) = false)) (HA : Hid (armB a b c d lo hi = true)) (HR : Hid (ratB p q = true)) (HQ : Hid (ratB u v = true)) (h1 : 0 < p) (h2 : 0 < u) (h3 : s < lo) :
    Calls Try.prog 7 #[.agg #[.int .i64 a, .int .i64 b, .int .i64 c, .int .i64 d, .int .i64 lo, .int .i64 hi], .agg #[.int .i64 p, .int .i64 q, .int .i64 u, .int .i64 v], .int .i64 s] w fun e w' => e = .returned (.bool true) ∧ Below w.heap.size w w' := by
  go_enter Try.func7, Try.ntmps7
  go_wp2_with fail
  refine (far24 _ _ _ _ _ _ _).mono ?_
  rw [HF.out]
  rintro e w1 ⟨rfl, hb1⟩
  (have hz1 := hb1.size; (try simp at hz1); have hc1_0 := fun o => (bcell hb1).1 (w.heap.size) o (by first | omega | (simp; done) | (simp; omega)); have hf1_0 := fun o => (bcell hb1).2 (w.heap.size) o (by first | omega | (simp; done) | (simp; omega)); have : w.heap.size < w1.heap.size := (by first | omega | (simp; done) | (simp; omega)); have : w.heap.size < w1.heap.size + 1 := (by first | omega | (simp; done) | (simp; omega)); have : w.heap.size < w1.heap.size + 2 := (by first | omega | (simp; done) | (simp; omega)); have : w.heap.size < w1.heap.size + 3 := (by first | omega | (simp; done) | (simp; omega)); have hc1_1 := fun o => (bcell hb1).1 (w.heap.size + 1) o (by first | omega | (simp; done) | (simp; omega)); have hf1_1 := fun o => (bcell hb1).2 (w.heap.size + 1) o (by first | omega | (simp; done) | (simp; omega)); have : w.heap.size + 1 < w1.heap.size := (by first | omega | (simp; done) | (simp; omega)); have : w.heap.size + 1 < w1.heap.size + 1 := (by first | omega | (simp; done) | (simp; omega)); have : w.heap.size + 1 < w1.heap.size + 2 := (by first | omega | (simp; done) | (simp; omega)); have : w.heap.size + 1 < w1.heap.size + 3 := (by first | omega | (simp; done) | (simp; omega)))
  go_wp2_with fail
  refine (isArm25 _ _ _ _ _ _ _).mono ?_
  rw [HA.out]
  rintro e w2 ⟨rfl, hb2⟩
  (have hz2 := hb2.size; (try simp at hz2); have hc2_0 := fun o => (bcell hb2).1 (w.heap.size) o (by first | omega | (simp; done) | (simp; omega)); have hf2_0 := fun o => (bcell hb2).2 (w.heap.size) o (by first | omega | (simp; done) | (simp; omega)); have : w.heap.size < w2.heap.size := (by first | omega | (simp; done) | (simp; omega)); have : w.heap.size < w2.heap.size + 1 := (by first | omega | (simp; done) | (simp; omega)); have : w.heap.size < w2.heap.size + 2 := (by first | omega | (simp; done) | (simp; omega)); have : w.heap.size < w2.heap.size + 3 := (by first | omega | (simp; done) | (simp; omega)); have hc2_1 := fun o => (bcell hb2).1 (w.heap.size + 1) o (by first | omega | (simp; done) | (simp; omega)); have hf2_1 := fun o => (bcell hb2).2 (w.heap.size + 1) o (by first | omega | (simp; done) | (simp; omega)); have : w.heap.size + 1 < w2.heap.size := (by first | omega | (simp; done) | (simp; omega)); have : w.heap.size + 1 < w2.heap.size + 1 := (by first | omega | (simp; done) | (simp; omega)); have : w.heap.size + 1 < w2.heap.size + 2 := (by first | omega | (simp; done) | (simp; omega)); have : w.heap.size + 1 < w2.heap.size + 3 := (by first | omega | (simp; done) | (simp; omega)))
  go_wp2_with fail
  refine (isRatio16 _ _ _).mono ?_
  rw [HR.out]
  rintro e w3 ⟨rfl, hb3⟩
  (have hz3 := hb3.size; (try simp at hz3); have hc3_0 := fun o => (bcell hb3).1 (w.heap.size) o (by first | omega | (simp; done) | (simp; omega)); have hf3_0 := fun o => (bcell hb3).2 (w.heap.size) o (by first | omega | (simp; done) | (simp; omega)); have : w.heap.size < w3.heap.size := (by first | omega | (simp; done) | (simp; omega)); have : w.heap.size < w3.heap.size + 1 := (by first | omega | (simp; done) | (simp; omega)); have : w.heap.size < w3.heap.size + 2 := (by first | omega | (simp; done) | (simp; omega)); have : w.heap.size < w3.heap.size + 3 := (by first | omega | (simp; done) | (simp; omega)); have hc3_1 := fun o => (bcell hb3).1 (w.heap.size + 1) o (by first | omega | (simp; done) | (simp; omega)); have hf3_1 := fun o => (bcell hb3).2 (w.heap.size + 1) o (by first | omega | (simp; done) | (simp; omega)); have : w.heap.size + 1 < w3.heap.size := (by first | omega | (simp; done) | (simp; omega)); have : w.heap.size + 1 < w3.heap.size + 1 := (by first | omega | (simp; done) | (simp; omega)); have : w.heap.size + 1 < w3.heap.size + 2 := (by first | omega | (simp; done) | (simp; omega)); have : w.heap.size + 1 < w3.heap.size + 3 := (by first | omega | (simp; done) | (simp; omega)))
  go_wp2_with fail
  refine (isRatio16 _ _ _).mono ?_
  rw [HQ.out]
  rintro e w4 ⟨rfl, hb4⟩
  (have hz4 := hb4.size; (try simp at hz4); have hc4_0 := fun o => (bcell hb4).1 (w.heap.size) o (by first | omega | (simp; done) | (simp; omega)); have hf4_0 := fun o => (bcell hb4).2 (w.heap.size) o (by first | omega | (simp; done) | (simp; omega)); have : w.heap.size < w4.heap.size := (by first | omega | (simp; done) | (simp; omega)); have : w.heap.size < w4.heap.size + 1 := (by first | omega | (simp; done) | (simp; omega)); have : w.heap.size < w4.heap.size + 2 := (by first | omega | (simp; done) | (simp; omega)); have : w.heap.size < w4.heap.size + 3 := (by first | omega | (simp; done) | (simp; omega)); have hc4_1 := fun o => (bcell hb4).1 (w.heap.size + 1) o (by first | omega | (simp; done) | (simp; omega)); have hf4_1 := fun o => (bcell hb4).2 (w.heap.size + 1) o (by first | omega | (simp; done) | (simp; omega)); have : w.heap.size + 1 < w4.heap.size := (by first | omega | (simp; done) | (simp; omega)); have : w.heap.size + 1 < w4.heap.size + 1 := (by first | omega | (simp; done) | (simp; omega)); have : w.heap.size + 1 < w4.heap.size + 2 := (by first | omega | (simp; done) | (simp; omega)); have : w.heap.size + 1 < w4.heap.size + 3 := (by first | omega | (simp; done) | (simp; omega)))
  go_wp2_with fail
  refine (works13 _).mono ?_
  rintro e w20 ⟨rfl, hb20⟩
  (have hz20 := hb20.size; (try simp at hz20))
  go_wp2
  go_ret
  exact ⟨rfl, by (repeat' (first | (with_reducible exact Below.refl _ _) | (with_reducible assumption) | (with_reducible refine Below.drew ?_) | (with_reducible refine below_drewN ?_ _) | (with_reducible refine Below.setCell ?_ ?_ _) | (with_reducible refine Below.alloc ?_ ?_ _) | (refine Below.trans ?_ (Below.mono (by with_reducible assumption) ?_)) | omega | (exact Below.size (by with_reducible assumption)) | (simp; done) | (simp; omega)))⟩


set_option maxRecDepth 100000 in
set_option maxHeartbeats 16000000 in
theorem near7_8 (a b c d lo hi p q u v s : Int) (w : World) (HF : Hid ((armB a b c d lo hi && decide (400 < hi - lo)) = false)) (HA : Hid (armB a b c d lo hi = true)) (HR : Hid (ratB p q = true)) (HQ : Hid (ratB u v = true)) (h1 : 0 < p) (h2 : 0 < u) (h3 : lo ≤ s) (h4 : hi < s) :
    Calls Try.prog 7 #[.agg #[.int .i64 a, .int .i64 b, .int .i64 c, .int .i64 d, .int .i64 lo, .int .i64 hi], .agg #[.int .i64 p, .int .i64 q, .int .i64 u, .int .i64 v], .int .i64 s] w fun e w' => e = .returned (.bool true) ∧ Below w.heap.size w w' := by
  go_enter Try.func7, Try.ntmps7
  go_wp2_with fail
  refine (far24 _ _ _ _ _ _ _).mono ?_
  rw [HF.out]
  rintro e w1 ⟨rfl, hb1⟩
  (have hz1 := hb1.size; (try simp at hz1); have hc1_0 := fun o => (bcell hb1).1 (w.heap.size) o (by first | omega | (simp; done) | (simp; omega)); have hf1_0 := fun o => (bcell hb1).2 (w.heap.size) o (by first | omega | (simp; done) | (simp; omega)); have : w.heap.size < w1.heap.size := (by first | omega | (simp; done) | (simp; omega)); have : w.heap.size < w1.heap.size + 1 := (by first | omega | (simp; done) | (simp; omega)); have : w.heap.size < w1.heap.size + 2 := (by first | omega | (simp; done) | (simp; omega)); have : w.heap.size < w1.heap.size + 3 := (by first | omega | (simp; done) | (simp; omega)); have hc1_1 := fun o => (bcell hb1).1 (w.heap.size + 1) o (by first | omega | (simp; done) | (simp; omega)); have hf1_1 := fun o => (bcell hb1).2 (w.heap.size + 1) o (by first | omega | (simp; done) | (simp; omega)); have : w.heap.size + 1 < w1.heap.size := (by first | omega | (simp; done) | (simp; omega)); have : w.heap.size + 1 < w1.heap.size + 1 := (by first | omega | (simp; done) | (simp; omega)); have : w.heap.size + 1 < w1.heap.size + 2 := (by first | omega | (simp; done) | (simp; omega)); have : w.heap.size + 1 < w1.heap.size + 3 := (by first | omega | (simp; done) | (simp; omega)))
  go_wp2_with fail
  refine (isArm25 _ _ _ _ _ _ _).mono ?_
  rw [HA.out]
  rintro e w2 ⟨rfl, hb2⟩
  (have hz2 := hb2.size; (try simp at hz2); have hc2_0 := fun o => (bcell hb2).1 (w.heap.size) o (by first | omega | (simp; done) | (simp; omega)); have hf2_0 := fun o => (bcell hb2).2 (w.heap.size) o (by first | omega | (simp; done) | (simp; omega)); have : w.heap.size < w2.heap.size := (by first | omega | (simp; done) | (simp; omega)); have : w.heap.size < w2.heap.size + 1 := (by first | omega | (simp; done) | (simp; omega)); have : w.heap.size < w2.heap.size + 2 := (by first | omega | (simp; done) | (simp; omega)); have : w.heap.size < w2.heap.size + 3 := (by first | omega | (simp; done) | (simp; omega)); have hc2_1 := fun o => (bcell hb2).1 (w.heap.size + 1) o (by first | omega | (simp; done) | (simp; omega)); have hf2_1 := fun o => (bcell hb2).2 (w.heap.size + 1) o (by first | omega | (simp; done) | (simp; omega)); have : w.heap.size + 1 < w2.heap.size := (by first | omega | (simp; done) | (simp; omega)); have : w.heap.size + 1 < w2.heap.size + 1 := (by first | omega | (simp; done) | (simp; omega)); have : w.heap.size + 1 < w2.heap.size + 2 := (by first | omega | (simp; done) | (simp; omega)); have : w.heap.size + 1 < w2.heap.size + 3 := (by first | omega | (simp; done) | (simp; omega)))
  go_wp2_with fail
  refine (isRatio16 _ _ _).mono ?_
  rw [HR.out]
  rintro e w3 ⟨rfl, hb3⟩
  (have hz3 := hb3.size; (try simp at hz3); have hc3_0 := fun o => (bcell hb3).1 (w.heap.size) o (by first | omega | (simp; done) | (simp; omega)); have hf3_0 := fun o => (bcell hb3).2 (w.heap.size) o (by first | omega | (simp; done) | (simp; omega)); have : w.heap.size < w3.heap.size := (by first | omega | (simp; done) | (simp; omega)); have : w.heap.size < w3.heap.size + 1 := (by first | omega | (simp; done) | (simp; omega)); have : w.heap.size < w3.heap.size + 2 := (by first | omega | (simp; done) | (simp; omega)); have : w.heap.size < w3.heap.size + 3 := (by first | omega | (simp; done) | (simp; omega)); have hc3_1 := fun o => (bcell hb3).1 (w.heap.size + 1) o (by first | omega | (simp; done) | (simp; omega)); have hf3_1 := fun o => (bcell hb3).2 (w.heap.size + 1) o (by first | omega | (simp; done) | (simp; omega)); have : w.heap.size + 1 < w3.heap.size := (by first | omega | (simp; done) | (simp; omega)); have : w.heap.size + 1 < w3.heap.size + 1 := (by first | omega | (simp; done) | (simp; omega)); have : w.heap.size + 1 < w3.heap.size + 2 := (by first | omega | (simp; done) | (simp; omega)); have : w.heap.size + 1 < w3.heap.size + 3 := (by first | omega | (simp; done) | (simp; omega)))
  go_wp2_with fail
  refine (isRatio16 _ _ _).mono ?_
  rw [HQ.out]
  rintro e w4 ⟨rfl, hb4⟩
  (have hz4 := hb4.size; (try simp at hz4); have hc4_0 := fun o => (bcell hb4).1 (w.heap.size) o (by first | omega | (simp; done) | (simp; omega)); have hf4_0 := fun o => (bcell hb4).2 (w.heap.size) o (by first | omega | (simp; done) | (simp; omega)); have : w.heap.size < w4.heap.size := (by first | omega | (simp; done) | (simp; omega)); have : w.heap.size < w4.heap.size + 1 := (by first | omega | (simp; done) | (simp; omega)); have : w.heap.size < w4.heap.size + 2 := (by first | omega | (simp; done) | (simp; omega)); have : w.heap.size < w4.heap.size + 3 := (by first | omega | (simp; done) | (simp; omega)); have hc4_1 := fun o => (bcell hb4).1 (w.heap.size + 1) o (by first | omega | (simp; done) | (simp; omega)); have hf4_1 := fun o => (bcell hb4).2 (w.heap.size + 1) o (by first | omega | (simp; done) | (simp; omega)); have : w.heap.size + 1 < w4.heap.size := (by first | omega | (simp; done) | (simp; omega)); have : w.heap.size + 1 < w4.heap.size + 1 := (by first | omega | (simp; done) | (simp; omega)); have : w.heap.size + 1 < w4.heap.size + 2 := (by first | omega | (simp; done) | (simp; omega)); have : w.heap.size + 1 < w4.heap.size + 3 := (by first | omega | (simp; done) | (simp; omega)))
  go_wp2_with fail
  refine (works13 _).mono ?_
  rintro e w20 ⟨rfl, hb20⟩
  (have hz20 := hb20.size; (try simp at hz20))
  go_wp2
  go_ret
  exact ⟨rfl, by (repeat' (first | (with_reducible exact Below.refl _ _) | (with_reducible assumption) | (with_reducible refine Below.drew ?_) | (with_reducible refine below_drewN ?_ _) | (with_reducible refine Below.setCell ?_ ?_ _) | (with_reducible refine Below.alloc ?_ ?_ _) | (refine Below.trans ?_ (Below.mono (by with_reducible assumption) ?_)) | omega | (exact Below.size (by with_reducible assumption)) | (simp; done) | (simp; omega)))⟩


end Go.Proofs.Ytfboiplpfkommaa
