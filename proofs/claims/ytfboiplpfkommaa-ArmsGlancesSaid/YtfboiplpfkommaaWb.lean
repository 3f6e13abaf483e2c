/- Walks: told, result, Reduce, Add, Mul, Compare of the program and of the reference. -/
import Derived.Test.YtfboiplpfkommaaWa
namespace Go.Proofs.Ytfboiplpfkommaa
open Go.RowKit

set_option maxHeartbeats 400000 in
theorem told62 (n d : Int) (w : World) (h1 : -9223372036854775807 ≤ n) (h2 : n ≤ 9223372036854775807) (h3 : 1 ≤ d) (h4 : d ≤ 9223372036854775807) :
    Calls Try.prog 62 #[.int .i64 n, .int .i64 d] w fun e w' => e = .returned (.tuple #[.agg #[.int .i64 (told n d).n, .int .i64 (told n d).d], .int .i64 (told n d).e]) ∧ Below w.heap.size w w' := by
  cases hr : ratB (redN n d) (redD n d)
  all_goals
    go_enter Try.func62, Try.ntmps62
    go_wp2_with fail
    refine (reduced54 _ _ _ (by omega) (by omega) (by omega) (by omega)).mono ?_
    rintro e w1 ⟨rfl, hb1⟩
    (have hz1 := hb1.size; (try simp at hz1); have hc1_0 := fun o => (bcell hb1).1 (w.heap.size) o (by first | omega | (simp; done) | (simp; omega)); have hf1_0 := fun o => (bcell hb1).2 (w.heap.size) o (by first | omega | (simp; done) | (simp; omega)); have : w.heap.size < w1.heap.size := (by first | omega | (simp; done) | (simp; omega)); have : w.heap.size < w1.heap.size + 1 := (by first | omega | (simp; done) | (simp; omega)); have : w.heap.size < w1.heap.size + 2 := (by first | omega | (simp; done) | (simp; omega)); have : w.heap.size < w1.heap.size + 3 := (by first | omega | (simp; done) | (simp; omega)))
    go_wp2_with fail
    refine (isRatio52 _ _ _).mono ?_
    rintro e w2 ⟨rfl, hb2⟩
    (have hz2 := hb2.size; (try simp at hz2); have hc2_0 := fun o => (bcell hb2).1 (w.heap.size) o (by first | omega | (simp; done) | (simp; omega)); have hf2_0 := fun o => (bcell hb2).2 (w.heap.size) o (by first | omega | (simp; done) | (simp; omega)); have : w.heap.size < w2.heap.size := (by first | omega | (simp; done) | (simp; omega)); have : w.heap.size < w2.heap.size + 1 := (by first | omega | (simp; done) | (simp; omega)); have : w.heap.size < w2.heap.size + 2 := (by first | omega | (simp; done) | (simp; omega)); have : w.heap.size < w2.heap.size + 3 := (by first | omega | (simp; done) | (simp; omega)); have hc2_1 := fun o => (bcell hb2).1 (w1.heap.size) o (by first | omega | (simp; done) | (simp; omega)); have hf2_1 := fun o => (bcell hb2).2 (w1.heap.size) o (by first | omega | (simp; done) | (simp; omega)); have : w1.heap.size < w2.heap.size := (by first | omega | (simp; done) | (simp; omega)); have : w1.heap.size < w2.heap.size + 1 := (by first | omega | (simp; done) | (simp; omega)); have : w1.heap.size < w2.heap.size + 2 := (by first | omega | (simp; done) | (simp; omega)); have : w1.heap.size < w2.heap.size + 3 := (by first | omega | (simp; done) | (simp; omega)))
    go_wp2
  · refine bodyPost_ret (v := .tuple #[.agg #[.int .i64 0, .int .i64 0], .int .i64 2]) (by simp [results, Try.results62, go_sem, *]) rfl ⟨?_, ?_⟩
    · rw [told_f (by simp [hr])]
    · (repeat' (first | (with_reducible exact Below.refl _ _) | (with_reducible assumption) | (with_reducible refine Below.drew ?_) | (with_reducible refine below_drewN ?_ _) | (with_reducible refine Below.setCell ?_ ?_ _) | (with_reducible refine Below.alloc ?_ ?_ _) | (refine Below.trans ?_ (Below.mono (by with_reducible assumption) ?_)) | omega | (exact Below.size (by with_reducible assumption)) | (simp; done) | (simp; omega)))
  · refine bodyPost_ret (v := .tuple #[.agg #[.int .i64 (redN n d), .int .i64 (redD n d)], .int .i64 0]) (by simp [results, Try.results62, go_sem, *]) rfl ⟨?_, ?_⟩
    · rw [told_t (by simp [hr])]
    · (repeat' (first | (with_reducible exact Below.refl _ _) | (with_reducible assumption) | (with_reducible refine Below.drew ?_) | (with_reducible refine below_drewN ?_ _) | (with_reducible refine Below.setCell ?_ ?_ _) | (with_reducible refine Below.alloc ?_ ?_ _) | (refine Below.trans ?_ (Below.mono (by with_reducible assumption) ?_)) | omega | (exact Below.size (by with_reducible assumption)) | (simp; done) | (simp; omega)))

set_option maxHeartbeats 400000 in
theorem result72 (n d : Int) (w : World) (h1 : -9223372036854775807 ≤ n) (h2 : n ≤ 9223372036854775807) (h3 : 1 ≤ d) (h4 : d ≤ 9223372036854775807) :
    Calls Try.prog 72 #[.agg #[.int .i64 n, .int .i64 d]] w fun e w' => e = .returned (.tuple #[.agg #[.int .i64 (told n d).n, .int .i64 (told n d).d], .int .i64 (told n d).e]) ∧ Below w.heap.size w w' := by
  cases hr : ratB (redN n d) (redD n d)
  all_goals
    go_enter Try.func72, Try.ntmps72
    go_wp2_with fail
    refine (reduced19 _ _ _ (by omega) (by omega) (by omega) (by omega)).mono ?_
    rintro e w1 ⟨rfl, hb1⟩
    (have hz1 := hb1.size; (try simp at hz1); have hc1_0 := fun o => (bcell hb1).1 (w.heap.size) o (by first | omega | (simp; done) | (simp; omega)); have hf1_0 := fun o => (bcell hb1).2 (w.heap.size) o (by first | omega | (simp; done) | (simp; omega)); have : w.heap.size < w1.heap.size := (by first | omega | (simp; done) | (simp; omega)); have : w.heap.size < w1.heap.size + 1 := (by first | omega | (simp; done) | (simp; omega)); have : w.heap.size < w1.heap.size + 2 := (by first | omega | (simp; done) | (simp; omega)); have : w.heap.size < w1.heap.size + 3 := (by first | omega | (simp; done) | (simp; omega)); have hc1_1 := fun o => (bcell hb1).1 (w.heap.size+1) o (by first | omega | (simp; done) | (simp; omega)); have hf1_1 := fun o => (bcell hb1).2 (w.heap.size+1) o (by first | omega | (simp; done) | (simp; omega)); have : w.heap.size+1 < w1.heap.size := (by first | omega | (simp; done) | (simp; omega)); have : w.heap.size+1 < w1.heap.size + 1 := (by first | omega | (simp; done) | (simp; omega)); have : w.heap.size+1 < w1.heap.size + 2 := (by first | omega | (simp; done) | (simp; omega)); have : w.heap.size+1 < w1.heap.size + 3 := (by first | omega | (simp; done) | (simp; omega)))
    go_wp2_with fail
    refine (isRatio16 _ _ _).mono ?_
    rintro e w2 ⟨rfl, hb2⟩
    (have hz2 := hb2.size; (try simp at hz2); have hc2_0 := fun o => (bcell hb2).1 (w.heap.size) o (by first | omega | (simp; done) | (simp; omega)); have hf2_0 := fun o => (bcell hb2).2 (w.heap.size) o (by first | omega | (simp; done) | (simp; omega)); have : w.heap.size < w2.heap.size := (by first | omega | (simp; done) | (simp; omega)); have : w.heap.size < w2.heap.size + 1 := (by first | omega | (simp; done) | (simp; omega)); have : w.heap.size < w2.heap.size + 2 := (by first | omega | (simp; done) | (simp; omega)); have : w.heap.size < w2.heap.size + 3 := (by first | omega | (simp; done) | (simp; omega)); have hc2_1 := fun o => (bcell hb2).1 (w.heap.size+1) o (by first | omega | (simp; done) | (simp; omega)); have hf2_1 := fun o => (bcell hb2).2 (w.heap.size+1) o (by first | omega | (simp; done) | (simp; omega)); have : w.heap.size+1 < w2.heap.size := (by first | omega | (simp; done) | (simp; omega)); have : w.heap.size+1 < w2.heap.size + 1 := (by first | omega | (simp; done) | (simp; omega)); have : w.heap.size+1 < w2.heap.size + 2 := (by first | omega | (simp; done) | (simp; omega)); have : w.heap.size+1 < w2.heap.size + 3 := (by first | omega | (simp; done) | (simp; omega)); have hc2_2 := fun o => (bcell hb2).1 (w1.heap.size) o (by first | omega | (simp; done) | (simp; omega)); have hf2_2 := fun o => (bcell hb2).2 (w1.heap.size) o (by first | omega | (simp; done) | (simp; omega)); have : w1.heap.size < w2.heap.size := (by first | omega | (simp; done) | (simp; omega)); have : w1.heap.size < w2.heap.size + 1 := (by first | omega | (simp; done) | (simp; omega)); have : w1.heap.size < w2.heap.size + 2 := (by first | omega | (simp; done) | (simp; omega)); have : w1.heap.size < w2.heap.size + 3 := (by first | omega | (simp; done) | (simp; omega)))
    go_wp2
  · refine bodyPost_ret (v := .tuple #[.agg #[.int .i64 0, .int .i64 0], .int .i64 2]) (by simp [results, Try.results72, go_sem, *]) rfl ⟨?_, ?_⟩
    · rw [told_f (by simp [hr])]
    · (repeat' (first | (with_reducible exact Below.refl _ _) | (with_reducible assumption) | (with_reducible refine Below.drew ?_) | (with_reducible refine below_drewN ?_ _) | (with_reducible refine Below.setCell ?_ ?_ _) | (with_reducible refine Below.alloc ?_ ?_ _) | (refine Below.trans ?_ (Below.mono (by with_reducible assumption) ?_)) | omega | (exact Below.size (by with_reducible assumption)) | (simp; done) | (simp; omega)))
  · refine bodyPost_ret (v := .tuple #[.agg #[.int .i64 (redN n d), .int .i64 (redD n d)], .int .i64 0]) (by simp [results, Try.results72, go_sem, *]) rfl ⟨?_, ?_⟩
    · rw [told_t (by simp [hr])]
    · (repeat' (first | (with_reducible exact Below.refl _ _) | (with_reducible assumption) | (with_reducible refine Below.drew ?_) | (with_reducible refine below_drewN ?_ _) | (with_reducible refine Below.setCell ?_ ?_ _) | (with_reducible refine Below.alloc ?_ ?_ _) | (refine Below.trans ?_ (Below.mono (by with_reducible assumption) ?_)) | omega | (exact Below.size (by with_reducible assumption)) | (simp; done) | (simp; omega)))

end Go.Proofs.Ytfboiplpfkommaa
