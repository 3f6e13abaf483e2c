/- Walks: Reduce, Add, Mul, Compare of the program and of the reference. -/
import Derived.Test.YtfboiplpfkommaaWb
import Derived.Handy
namespace Go.Proofs.Ytfboiplpfkommaa
open Go.RowKit

set_option maxHeartbeats 400000 in
theorem reduce32 (n d : Int) (w : World) :
    Calls Try.prog 32 #[.agg #[.int .i64 n, .int .i64 d]] w fun e w' => e = .returned (.tuple #[.agg #[.int .i64 (reduceV n d).n, .int .i64 (reduceV n d).d], .int .i64 (reduceV n d).e]) ∧ Below w.heap.size w w' := by
  cases hr : ratB n d
  · go_enter Try.func32, Try.ntmps32
    go_wp2_with fail
    refine (isRatio52 _ _ _).mono ?_
    rintro e w1 ⟨rfl, hb1⟩
    (have hz1 := hb1.size; (try simp at hz1); have hc1_0 := fun o => (bcell hb1).1 (w.heap.size) o (by first | omega | (simp; done) | (simp; omega)); have hf1_0 := fun o => (bcell hb1).2 (w.heap.size) o (by first | omega | (simp; done) | (simp; omega)); have : w.heap.size < w1.heap.size := (by first | omega | (simp; done) | (simp; omega)); have : w.heap.size < w1.heap.size + 1 := (by first | omega | (simp; done) | (simp; omega)); have : w.heap.size < w1.heap.size + 2 := (by first | omega | (simp; done) | (simp; omega)); have : w.heap.size < w1.heap.size + 3 := (by first | omega | (simp; done) | (simp; omega)); have hc1_1 := fun o => (bcell hb1).1 (w.heap.size+1) o (by first | omega | (simp; done) | (simp; omega)); have hf1_1 := fun o => (bcell hb1).2 (w.heap.size+1) o (by first | omega | (simp; done) | (simp; omega)); have : w.heap.size+1 < w1.heap.size := (by first | omega | (simp; done) | (simp; omega)); have : w.heap.size+1 < w1.heap.size + 1 := (by first | omega | (simp; done) | (simp; omega)); have : w.heap.size+1 < w1.heap.size + 2 := (by first | omega | (simp; done) | (simp; omega)); have : w.heap.size+1 < w1.heap.size + 3 := (by first | omega | (simp; done) | (simp; omega)))
    go_wp2
    refine bodyPost_ret (v := .tuple #[.agg #[.int .i64 0, .int .i64 0], .int .i64 10]) (by simp [results, Try.results32, go_sem, *]) rfl ⟨?_, ?_⟩
    · rw [reduceV_f hr]
    · (repeat' (first | (with_reducible exact Below.refl _ _) | (with_reducible assumption) | (with_reducible refine Below.drew ?_) | (with_reducible refine below_drewN ?_ _) | (with_reducible refine Below.setCell ?_ ?_ _) | (with_reducible refine Below.alloc ?_ ?_ _) | (refine Below.trans ?_ (Below.mono (by with_reducible assumption) ?_)) | omega | (exact Below.size (by with_reducible assumption)) | (simp; done) | (simp; omega)))
  · obtain ⟨⟨h1, h2⟩, h3, h4⟩ := ratB_iff.1 hr
    go_enter Try.func32, Try.ntmps32
    go_wp2_with fail
    refine (isRatio52 _ _ _).mono ?_
    rintro e w1 ⟨rfl, hb1⟩
    (have hz1 := hb1.size; (try simp at hz1); have hc1_0 := fun o => (bcell hb1).1 (w.heap.size) o (by first | omega | (simp; done) | (simp; omega)); have hf1_0 := fun o => (bcell hb1).2 (w.heap.size) o (by first | omega | (simp; done) | (simp; omega)); have : w.heap.size < w1.heap.size := (by first | omega | (simp; done) | (simp; omega)); have : w.heap.size < w1.heap.size + 1 := (by first | omega | (simp; done) | (simp; omega)); have : w.heap.size < w1.heap.size + 2 := (by first | omega | (simp; done) | (simp; omega)); have : w.heap.size < w1.heap.size + 3 := (by first | omega | (simp; done) | (simp; omega)); have hc1_1 := fun o => (bcell hb1).1 (w.heap.size+1) o (by first | omega | (simp; done) | (simp; omega)); have hf1_1 := fun o => (bcell hb1).2 (w.heap.size+1) o (by first | omega | (simp; done) | (simp; omega)); have : w.heap.size+1 < w1.heap.size := (by first | omega | (simp; done) | (simp; omega)); have : w.heap.size+1 < w1.heap.size + 1 := (by first | omega | (simp; done) | (simp; omega)); have : w.heap.size+1 < w1.heap.size + 2 := (by first | omega | (simp; done) | (simp; omega)); have : w.heap.size+1 < w1.heap.size + 3 := (by first | omega | (simp; done) | (simp; omega)))
    go_wp2_with fail
    refine (reduced54 _ _ _ (by omega) (by omega) (by omega) (by omega)).mono ?_
    rintro e w2 ⟨rfl, hb2⟩
    (have hz2 := hb2.size; (try simp at hz2); have hc2_0 := fun o => (bcell hb2).1 (w.heap.size) o (by first | omega | (simp; done) | (simp; omega)); have hf2_0 := fun o => (bcell hb2).2 (w.heap.size) o (by first | omega | (simp; done) | (simp; omega)); have : w.heap.size < w2.heap.size := (by first | omega | (simp; done) | (simp; omega)); have : w.heap.size < w2.heap.size + 1 := (by first | omega | (simp; done) | (simp; omega)); have : w.heap.size < w2.heap.size + 2 := (by first | omega | (simp; done) | (simp; omega)); have : w.heap.size < w2.heap.size + 3 := (by first | omega | (simp; done) | (simp; omega)); have hc2_1 := fun o => (bcell hb2).1 (w.heap.size+1) o (by first | omega | (simp; done) | (simp; omega)); have hf2_1 := fun o => (bcell hb2).2 (w.heap.size+1) o (by first | omega | (simp; done) | (simp; omega)); have : w.heap.size+1 < w2.heap.size := (by first | omega | (simp; done) | (simp; omega)); have : w.heap.size+1 < w2.heap.size + 1 := (by first | omega | (simp; done) | (simp; omega)); have : w.heap.size+1 < w2.heap.size + 2 := (by first | omega | (simp; done) | (simp; omega)); have : w.heap.size+1 < w2.heap.size + 3 := (by first | omega | (simp; done) | (simp; omega)))
    go_wp2
    refine bodyPost_ret (v := .tuple #[.agg #[.int .i64 (redN n d), .int .i64 (redD n d)], .int .i64 0]) (by simp [results, Try.results32, go_sem, *]) rfl ⟨?_, ?_⟩
    · rw [reduceV_t hr]
    · (repeat' (first | (with_reducible exact Below.refl _ _) | (with_reducible assumption) | (with_reducible refine Below.drew ?_) | (with_reducible refine below_drewN ?_ _) | (with_reducible refine Below.setCell ?_ ?_ _) | (with_reducible refine Below.alloc ?_ ?_ _) | (refine Below.trans ?_ (Below.mono (by with_reducible assumption) ?_)) | omega | (exact Below.size (by with_reducible assumption)) | (simp; done) | (simp; omega)))

set_option maxHeartbeats 400000 in
theorem reduce33 (n d : Int) (w : World) :
    Calls Try.prog 33 #[.agg #[.int .i64 n, .int .i64 d]] w fun e w' => e = .returned (.tuple #[.agg #[.int .i64 (reduceV n d).n, .int .i64 (reduceV n d).d], .int .i64 (reduceV n d).e]) ∧ Below w.heap.size w w' := by
  cases hr : ratB n d
  · go_enter Try.func33, Try.ntmps33
    go_wp2_with fail
    refine (isRatio16 _ _ _).mono ?_
    rintro e w1 ⟨rfl, hb1⟩
    (have hz1 := hb1.size; (try simp at hz1); have hc1_0 := fun o => (bcell hb1).1 (w.heap.size) o (by first | omega | (simp; done) | (simp; omega)); have hf1_0 := fun o => (bcell hb1).2 (w.heap.size) o (by first | omega | (simp; done) | (simp; omega)); have : w.heap.size < w1.heap.size := (by first | omega | (simp; done) | (simp; omega)); have : w.heap.size < w1.heap.size + 1 := (by first | omega | (simp; done) | (simp; omega)); have : w.heap.size < w1.heap.size + 2 := (by first | omega | (simp; done) | (simp; omega)); have : w.heap.size < w1.heap.size + 3 := (by first | omega | (simp; done) | (simp; omega)); have hc1_1 := fun o => (bcell hb1).1 (w.heap.size+1) o (by first | omega | (simp; done) | (simp; omega)); have hf1_1 := fun o => (bcell hb1).2 (w.heap.size+1) o (by first | omega | (simp; done) | (simp; omega)); have : w.heap.size+1 < w1.heap.size := (by first | omega | (simp; done) | (simp; omega)); have : w.heap.size+1 < w1.heap.size + 1 := (by first | omega | (simp; done) | (simp; omega)); have : w.heap.size+1 < w1.heap.size + 2 := (by first | omega | (simp; done) | (simp; omega)); have : w.heap.size+1 < w1.heap.size + 3 := (by first | omega | (simp; done) | (simp; omega)))
    go_wp2
    refine bodyPost_ret (v := .tuple #[.agg #[.int .i64 0, .int .i64 0], .int .i64 10]) (by simp [results, Try.results33, go_sem, *]) rfl ⟨?_, ?_⟩
    · rw [reduceV_f hr]
    · (repeat' (first | (with_reducible exact Below.refl _ _) | (with_reducible assumption) | (with_reducible refine Below.drew ?_) | (with_reducible refine below_drewN ?_ _) | (with_reducible refine Below.setCell ?_ ?_ _) | (with_reducible refine Below.alloc ?_ ?_ _) | (refine Below.trans ?_ (Below.mono (by with_reducible assumption) ?_)) | omega | (exact Below.size (by with_reducible assumption)) | (simp; done) | (simp; omega)))
  · obtain ⟨⟨h1, h2⟩, h3, h4⟩ := ratB_iff.1 hr
    go_enter Try.func33, Try.ntmps33
    go_wp2_with fail
    refine (isRatio16 _ _ _).mono ?_
    rintro e w1 ⟨rfl, hb1⟩
    (have hz1 := hb1.size; (try simp at hz1); have hc1_0 := fun o => (bcell hb1).1 (w.heap.size) o (by first | omega | (simp; done) | (simp; omega)); have hf1_0 := fun o => (bcell hb1).2 (w.heap.size) o (by first | omega | (simp; done) | (simp; omega)); have : w.heap.size < w1.heap.size := (by first | omega | (simp; done) | (simp; omega)); have : w.heap.size < w1.heap.size + 1 := (by first | omega | (simp; done) | (simp; omega)); have : w.heap.size < w1.heap.size + 2 := (by first | omega | (simp; done) | (simp; omega)); have : w.heap.size < w1.heap.size + 3 := (by first | omega | (simp; done) | (simp; omega)); have hc1_1 := fun o => (bcell hb1).1 (w.heap.size+1) o (by first | omega | (simp; done) | (simp; omega)); have hf1_1 := fun o => (bcell hb1).2 (w.heap.size+1) o (by first | omega | (simp; done) | (simp; omega)); have : w.heap.size+1 < w1.heap.size := (by first | omega | (simp; done) | (simp; omega)); have : w.heap.size+1 < w1.heap.size + 1 := (by first | omega | (simp; done) | (simp; omega)); have : w.heap.size+1 < w1.heap.size + 2 := (by first | omega | (simp; done) | (simp; omega)); have : w.heap.size+1 < w1.heap.size + 3 := (by first | omega | (simp; done) | (simp; omega)))
    go_wp2_with fail
    refine (result72 _ _ _ (by omega) (by omega) (by omega) (by omega)).mono ?_
    rintro e w2 ⟨rfl, hb2⟩
    (have hz2 := hb2.size; (try simp at hz2); have hc2_0 := fun o => (bcell hb2).1 (w.heap.size) o (by first | omega | (simp; done) | (simp; omega)); have hf2_0 := fun o => (bcell hb2).2 (w.heap.size) o (by first | omega | (simp; done) | (simp; omega)); have : w.heap.size < w2.heap.size := (by first | omega | (simp; done) | (simp; omega)); have : w.heap.size < w2.heap.size + 1 := (by first | omega | (simp; done) | (simp; omega)); have : w.heap.size < w2.heap.size + 2 := (by first | omega | (simp; done) | (simp; omega)); have : w.heap.size < w2.heap.size + 3 := (by first | omega | (simp; done) | (simp; omega)); have hc2_1 := fun o => (bcell hb2).1 (w.heap.size+1) o (by first | omega | (simp; done) | (simp; omega)); have hf2_1 := fun o => (bcell hb2).2 (w.heap.size+1) o (by first | omega | (simp; done) | (simp; omega)); have : w.heap.size+1 < w2.heap.size := (by first | omega | (simp; done) | (simp; omega)); have : w.heap.size+1 < w2.heap.size + 1 := (by first | omega | (simp; done) | (simp; omega)); have : w.heap.size+1 < w2.heap.size + 2 := (by first | omega | (simp; done) | (simp; omega)); have : w.heap.size+1 < w2.heap.size + 3 := (by first | omega | (simp; done) | (simp; omega)))
    go_wp2
    refine bodyPost_ret (v := .tuple #[.agg #[.int .i64 (told n d).n, .int .i64 (told n d).d], .int .i64 (told n d).e]) (by simp [results, Try.results33, go_sem, *]) rfl ⟨?_, ?_⟩
    · rw [reduceV_t hr, told_ok hr]
    · (repeat' (first | (with_reducible exact Below.refl _ _) | (with_reducible assumption) | (with_reducible refine Below.drew ?_) | (with_reducible refine below_drewN ?_ _) | (with_reducible refine Below.setCell ?_ ?_ _) | (with_reducible refine Below.alloc ?_ ?_ _) | (refine Below.trans ?_ (Below.mono (by with_reducible assumption) ?_)) | omega | (exact Below.size (by with_reducible assumption)) | (simp; done) | (simp; omega)))

set_option maxHeartbeats 400000 in
theorem add61 (a b c d : Int) (w : World) (hr : Hid (ratB a b = true)) (hs : Hid (ratB c d = true)) :
    Calls Try.prog 61 #[.agg #[.int .i64 a, .int .i64 b], .agg #[.int .i64 c, .int .i64 d]] w fun e w' => e = .returned (.tuple #[.agg #[.int .i64 (told (a * d + c * b) (b * d)).n, .int .i64 (told (a * d + c * b) (b * d)).d], .int .i64 (told (a * d + c * b) (b * d)).e]) ∧ Below w.heap.size w w' := by
  obtain ⟨⟨h1, h2⟩, ⟨h3, h4⟩, ⟨h5, h6⟩, _, _⟩ := rat_mul hr.out hs.out
  go_enter Try.func61, Try.ntmps61
  go_wp2_with fail
  refine (told62 _ _ _ (by omega) (by omega) (by omega) (by omega)).mono ?_
  rintro e w1 ⟨rfl, hb1⟩
  (have hz1 := hb1.size; (try simp at hz1); have hc1_0 := fun o => (bcell hb1).1 (w.heap.size) o (by first | omega | (simp; done) | (simp; omega)); have hf1_0 := fun o => (bcell hb1).2 (w.heap.size) o (by first | omega | (simp; done) | (simp; omega)); have : w.heap.size < w1.heap.size := (by first | omega | (simp; done) | (simp; omega)); have : w.heap.size < w1.heap.size + 1 := (by first | omega | (simp; done) | (simp; omega)); have : w.heap.size < w1.heap.size + 2 := (by first | omega | (simp; done) | (simp; omega)); have : w.heap.size < w1.heap.size + 3 := (by first | omega | (simp; done) | (simp; omega)); have hc1_1 := fun o => (bcell hb1).1 (w.heap.size+1) o (by first | omega | (simp; done) | (simp; omega)); have hf1_1 := fun o => (bcell hb1).2 (w.heap.size+1) o (by first | omega | (simp; done) | (simp; omega)); have : w.heap.size+1 < w1.heap.size := (by first | omega | (simp; done) | (simp; omega)); have : w.heap.size+1 < w1.heap.size + 1 := (by first | omega | (simp; done) | (simp; omega)); have : w.heap.size+1 < w1.heap.size + 2 := (by first | omega | (simp; done) | (simp; omega)); have : w.heap.size+1 < w1.heap.size + 3 := (by first | omega | (simp; done) | (simp; omega)); have hc1_2 := fun o => (bcell hb1).1 (w.heap.size+2) o (by first | omega | (simp; done) | (simp; omega)); have hf1_2 := fun o => (bcell hb1).2 (w.heap.size+2) o (by first | omega | (simp; done) | (simp; omega)); have : w.heap.size+2 < w1.heap.size := (by first | omega | (simp; done) | (simp; omega)); have : w.heap.size+2 < w1.heap.size + 1 := (by first | omega | (simp; done) | (simp; omega)); have : w.heap.size+2 < w1.heap.size + 2 := (by first | omega | (simp; done) | (simp; omega)); have : w.heap.size+2 < w1.heap.size + 3 := (by first | omega | (simp; done) | (simp; omega)))
  go_wp2
  refine bodyPost_ret (v := .tuple #[.agg #[.int .i64 (told (a * d + c * b) (b * d)).n, .int .i64 (told (a * d + c * b) (b * d)).d], .int .i64 (told (a * d + c * b) (b * d)).e]) (by simp [results, Try.results61, go_sem, *]) rfl ⟨rfl, ?_⟩
  (repeat' (first | (with_reducible exact Below.refl _ _) | (with_reducible assumption) | (with_reducible refine Below.drew ?_) | (with_reducible refine below_drewN ?_ _) | (with_reducible refine Below.setCell ?_ ?_ _) | (with_reducible refine Below.alloc ?_ ?_ _) | (refine Below.trans ?_ (Below.mono (by with_reducible assumption) ?_)) | omega | (exact Below.size (by with_reducible assumption)) | (simp; done) | (simp; omega)))

set_option maxHeartbeats 400000 in
theorem mul63 (a b c d : Int) (w : World) (hr : Hid (ratB a b = true)) (hs : Hid (ratB c d = true)) :
    Calls Try.prog 63 #[.agg #[.int .i64 a, .int .i64 b], .agg #[.int .i64 c, .int .i64 d]] w fun e w' => e = .returned (.tuple #[.agg #[.int .i64 (told (a * c) (b * d)).n, .int .i64 (told (a * c) (b * d)).d], .int .i64 (told (a * c) (b * d)).e]) ∧ Below w.heap.size w w' := by
  obtain ⟨⟨h1, h2⟩, ⟨h3, h4⟩, ⟨h5, h6⟩, _, _⟩ := rat_mul hr.out hs.out
  go_enter Try.func63, Try.ntmps63
  go_wp2_with fail
  refine (told62 _ _ _ (by omega) (by omega) (by omega) (by omega)).mono ?_
  rintro e w1 ⟨rfl, hb1⟩
  (have hz1 := hb1.size; (try simp at hz1); have hc1_0 := fun o => (bcell hb1).1 (w.heap.size) o (by first | omega | (simp; done) | (simp; omega)); have hf1_0 := fun o => (bcell hb1).2 (w.heap.size) o (by first | omega | (simp; done) | (simp; omega)); have : w.heap.size < w1.heap.size := (by first | omega | (simp; done) | (simp; omega)); have : w.heap.size < w1.heap.size + 1 := (by first | omega | (simp; done) | (simp; omega)); have : w.heap.size < w1.heap.size + 2 := (by first | omega | (simp; done) | (simp; omega)); have : w.heap.size < w1.heap.size + 3 := (by first | omega | (simp; done) | (simp; omega)); have hc1_1 := fun o => (bcell hb1).1 (w.heap.size+1) o (by first | omega | (simp; done) | (simp; omega)); have hf1_1 := fun o => (bcell hb1).2 (w.heap.size+1) o (by first | omega | (simp; done) | (simp; omega)); have : w.heap.size+1 < w1.heap.size := (by first | omega | (simp; done) | (simp; omega)); have : w.heap.size+1 < w1.heap.size + 1 := (by first | omega | (simp; done) | (simp; omega)); have : w.heap.size+1 < w1.heap.size + 2 := (by first | omega | (simp; done) | (simp; omega)); have : w.heap.size+1 < w1.heap.size + 3 := (by first | omega | (simp; done) | (simp; omega)); have hc1_2 := fun o => (bcell hb1).1 (w.heap.size+2) o (by first | omega | (simp; done) | (simp; omega)); have hf1_2 := fun o => (bcell hb1).2 (w.heap.size+2) o (by first | omega | (simp; done) | (simp; omega)); have : w.heap.size+2 < w1.heap.size := (by first | omega | (simp; done) | (simp; omega)); have : w.heap.size+2 < w1.heap.size + 1 := (by first | omega | (simp; done) | (simp; omega)); have : w.heap.size+2 < w1.heap.size + 2 := (by first | omega | (simp; done) | (simp; omega)); have : w.heap.size+2 < w1.heap.size + 3 := (by first | omega | (simp; done) | (simp; omega)))
  go_wp2
  refine bodyPost_ret (v := .tuple #[.agg #[.int .i64 (told (a * c) (b * d)).n, .int .i64 (told (a * c) (b * d)).d], .int .i64 (told (a * c) (b * d)).e]) (by simp [results, Try.results63, go_sem, *]) rfl ⟨rfl, ?_⟩
  (repeat' (first | (with_reducible exact Below.refl _ _) | (with_reducible assumption) | (with_reducible refine Below.drew ?_) | (with_reducible refine below_drewN ?_ _) | (with_reducible refine Below.setCell ?_ ?_ _) | (with_reducible refine Below.alloc ?_ ?_ _) | (refine Below.trans ?_ (Below.mono (by with_reducible assumption) ?_)) | omega | (exact Below.size (by with_reducible assumption)) | (simp; done) | (simp; omega)))

theorem sign_pos {n : Int} (h : 1 ≤ n) : n.sign = 1 := Int.sign_eq_one_of_pos (by omega)
theorem sign_neg {n : Int} (h : n ≤ -1) : n.sign = -1 := Int.sign_eq_neg_one_of_neg (by omega)

set_option maxHeartbeats 400000 in
theorem cmp71 (a b c d : Int) (w : World) (hr : Hid (ratB a b = true)) (hs : Hid (ratB c d = true)) :
    Calls Try.prog 71 #[.agg #[.int .i64 a, .int .i64 b], .agg #[.int .i64 c, .int .i64 d]] w fun e w' => e = .returned (.tuple #[.int .i64 (a * d - c * b).sign, .int .i64 0]) ∧ Below w.heap.size w w' := by
  obtain ⟨⟨h1, h2⟩, ⟨h3, h4⟩, ⟨h5, h6⟩, _, _⟩ := rat_mul hr.out hs.out
  go_enter Try.func71, Try.ntmps71
  go_wp2
  all_goals
    go_ret2
    refine ⟨?_, ?_⟩
    · have : a * d - c * b = 0 ∨ 1 ≤ a * d - c * b ∨ a * d - c * b ≤ -1 := by omega
      rcases this with h | h | h
      · rw [h]; first | (simp; done) | (simp; omega)
      · rw [sign_pos h]; first | (simp; done) | (simp; omega)
      · rw [sign_neg h]; first | (simp; done) | (simp; omega)
    · (repeat' (first | (with_reducible exact Below.refl _ _) | (with_reducible assumption) | (with_reducible refine Below.drew ?_) | (with_reducible refine below_drewN ?_ _) | (with_reducible refine Below.setCell ?_ ?_ _) | (with_reducible refine Below.alloc ?_ ?_ _) | (refine Below.trans ?_ (Below.mono (by with_reducible assumption) ?_)) | omega | (exact Below.size (by with_reducible assumption)) | (simp; done) | (simp; omega)))

end Go.Proofs.Ytfboiplpfkommaa
