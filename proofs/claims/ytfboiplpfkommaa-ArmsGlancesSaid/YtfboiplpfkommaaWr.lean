/- Walks: works, the examples of the chapter. -/
import Derived.Test.YtfboiplpfkommaaWd
import Derived.Test.YtfboiplpfkommaaWf
import Derived.Test.YtfboiplpfkommaaWj
import Derived.Test.YtfboiplpfkommaaWo
import Derived.Test.YtfboiplpfkommaaWq
import Derived.Test.YtfboiplpfkommaaWkP
namespace Go.Proofs.Ytfboiplpfkommaa
open Go.RowKit

theorem exG_read (w : World) : RdG (w.alloc (.cells #[.int .i64 4, .int .i64 7, .int .i64 4, .int .i64 8] 71)) (some ⟨w.heap.size, 0, none⟩) exG := by
  refine Rd.mk' (by simp) fun j r hj c v hv => ?_
  have hc : (w.alloc (.cells #[.int .i64 4, .int .i64 7, .int .i64 4, .int .i64 8] 71)).cell? ⟨w.heap.size, 0 + j * 2 + c, none⟩ = #[Value.int .i64 4, Value.int .i64 7, Value.int .i64 4, Value.int .i64 8][0 + j * 2 + c]? := World.cell?_alloc_new _ _ _ _
  rw [hc]
  have hj2 : j < 2 := (List.getElem?_eq_some_iff.1 hj).1
  have : j = 0 ∨ j = 1 := by omega
  rcases this with rfl | rfl
  all_goals
    simp only [exG, List.map_cons, List.map_nil, List.getElem?_cons_zero, List.getElem?_cons_succ, Option.some.injEq] at hj
    subst hj
    have hc2 : c < 2 := (List.getElem?_eq_some_iff.1 hv).1
    have : c = 0 ∨ c = 1 := by omega
    rcases this with rfl | rfl <;> exact hv
theorem two_read (w : World) : RdI (w.alloc (.cells #[.int .i64 47, .int .i64 48] 3)) (some ⟨w.heap.size, 0, none⟩) [47, 48] := by
  refine Rd.mk' (by simp) fun j r hj c v hv => ?_
  have hc : (w.alloc (.cells #[.int .i64 47, .int .i64 48] 3)).cell? ⟨w.heap.size, 0 + j * 1 + c, none⟩ = #[Value.int .i64 47, Value.int .i64 48][0 + j * 1 + c]? := World.cell?_alloc_new _ _ _ _
  rw [hc]
  have hj2 : j < 2 := (List.getElem?_eq_some_iff.1 hj).1
  have : j = 0 ∨ j = 1 := by omega
  rcases this with rfl | rfl
  all_goals
    simp only [List.map_cons, List.map_nil, List.getElem?_cons_zero, List.getElem?_cons_succ, Option.some.injEq] at hj
    subst hj
    have hc2 : c < 1 := (List.getElem?_eq_some_iff.1 hv).1
    obtain rfl : c = 0 := by omega
    exact hv

set_option maxRecDepth 100000 in
set_option maxHeartbeats 4000000 in
theorem works13 (w : World) : Calls Try.prog 13 #[] w fun e w' => e = .returned (.bool true) ∧ Below w.heap.size w w' := by
  have e1 := Lib.hid ex_add
  have e2 := Lib.hid ex_best
  have e3 := Lib.hid ex_set
  have e4 := Lib.hid ex_settings
  go_enter Try.func13, Try.ntmps13
  go_wp2_with fail
  refine (example51 _).mono ?_
  rintro e w1 ⟨rfl, hb1⟩
  (have hz1 := hb1.size; (try simp at hz1))
  go_wp2_with fail
  refine (add21 _ _ _ _ _).mono ?_
  rw [e1.out]
  rintro e w2 ⟨rfl, hb2⟩
  (have hz2 := hb2.size; (try simp at hz2); have hc2_0 := fun o => (bcell hb2).1 (w1.heap.size) o (by first | omega | (simp; done) | (simp; omega)); have hf2_0 := fun o => (bcell hb2).2 (w1.heap.size) o (by first | omega | (simp; done) | (simp; omega)); have : w1.heap.size < w2.heap.size := (by first | omega | (simp; done) | (simp; omega)); have : w1.heap.size < w2.heap.size + 1 := (by first | omega | (simp; done) | (simp; omega)); have : w1.heap.size < w2.heap.size + 2 := (by first | omega | (simp; done) | (simp; omega)); have : w1.heap.size < w2.heap.size + 3 := (by first | omega | (simp; done) | (simp; omega)); have hc2_1 := fun o => (bcell hb2).1 (w1.heap.size + 1) o (by first | omega | (simp; done) | (simp; omega)); have hf2_1 := fun o => (bcell hb2).2 (w1.heap.size + 1) o (by first | omega | (simp; done) | (simp; omega)); have : w1.heap.size + 1 < w2.heap.size := (by first | omega | (simp; done) | (simp; omega)); have : w1.heap.size + 1 < w2.heap.size + 1 := (by first | omega | (simp; done) | (simp; omega)); have : w1.heap.size + 1 < w2.heap.size + 2 := (by first | omega | (simp; done) | (simp; omega)); have : w1.heap.size + 1 < w2.heap.size + 3 := (by first | omega | (simp; done) | (simp; omega)))
  go_wp2_with fail
  refine (best14 _ _ _ _).mono ?_
  rw [e2.out]
  rintro e w3 ⟨rfl, hb3⟩
  (have hz3 := hb3.size; (try simp at hz3); have hc3_0 := fun o => (bcell hb3).1 (w1.heap.size) o (by first | omega | (simp; done) | (simp; omega)); have hf3_0 := fun o => (bcell hb3).2 (w1.heap.size) o (by first | omega | (simp; done) | (simp; omega)); have : w1.heap.size < w3.heap.size := (by first | omega | (simp; done) | (simp; omega)); have : w1.heap.size < w3.heap.size + 1 := (by first | omega | (simp; done) | (simp; omega)); have : w1.heap.size < w3.heap.size + 2 := (by first | omega | (simp; done) | (simp; omega)); have : w1.heap.size < w3.heap.size + 3 := (by first | omega | (simp; done) | (simp; omega)); have hc3_1 := fun o => (bcell hb3).1 (w1.heap.size + 1) o (by first | omega | (simp; done) | (simp; omega)); have hf3_1 := fun o => (bcell hb3).2 (w1.heap.size + 1) o (by first | omega | (simp; done) | (simp; omega)); have : w1.heap.size + 1 < w3.heap.size := (by first | omega | (simp; done) | (simp; omega)); have : w1.heap.size + 1 < w3.heap.size + 1 := (by first | omega | (simp; done) | (simp; omega)); have : w1.heap.size + 1 < w3.heap.size + 2 := (by first | omega | (simp; done) | (simp; omega)); have : w1.heap.size + 1 < w3.heap.size + 3 := (by first | omega | (simp; done) | (simp; omega)); have hc3_2 := fun o => (bcell hb3).1 (w2.heap.size) o (by first | omega | (simp; done) | (simp; omega)); have hf3_2 := fun o => (bcell hb3).2 (w2.heap.size) o (by first | omega | (simp; done) | (simp; omega)); have : w2.heap.size < w3.heap.size := (by first | omega | (simp; done) | (simp; omega)); have : w2.heap.size < w3.heap.size + 1 := (by first | omega | (simp; done) | (simp; omega)); have : w2.heap.size < w3.heap.size + 2 := (by first | omega | (simp; done) | (simp; omega)); have : w2.heap.size < w3.heap.size + 3 := (by first | omega | (simp; done) | (simp; omega)))
  go_wp2_with fail
  refine (set27 _ _ _ _ _ _ _ _ _).mono ?_
  rw [e3.out]
  rintro e w4 ⟨rfl, hb4⟩
  (have hz4 := hb4.size; (try simp at hz4); have hc4_0 := fun o => (bcell hb4).1 (w1.heap.size) o (by first | omega | (simp; done) | (simp; omega)); have hf4_0 := fun o => (bcell hb4).2 (w1.heap.size) o (by first | omega | (simp; done) | (simp; omega)); have : w1.heap.size < w4.heap.size := (by first | omega | (simp; done) | (simp; omega)); have : w1.heap.size < w4.heap.size + 1 := (by first | omega | (simp; done) | (simp; omega)); have : w1.heap.size < w4.heap.size + 2 := (by first | omega | (simp; done) | (simp; omega)); have : w1.heap.size < w4.heap.size + 3 := (by first | omega | (simp; done) | (simp; omega)); have hc4_1 := fun o => (bcell hb4).1 (w1.heap.size + 1) o (by first | omega | (simp; done) | (simp; omega)); have hf4_1 := fun o => (bcell hb4).2 (w1.heap.size + 1) o (by first | omega | (simp; done) | (simp; omega)); have : w1.heap.size + 1 < w4.heap.size := (by first | omega | (simp; done) | (simp; omega)); have : w1.heap.size + 1 < w4.heap.size + 1 := (by first | omega | (simp; done) | (simp; omega)); have : w1.heap.size + 1 < w4.heap.size + 2 := (by first | omega | (simp; done) | (simp; omega)); have : w1.heap.size + 1 < w4.heap.size + 3 := (by first | omega | (simp; done) | (simp; omega)); have hc4_2 := fun o => (bcell hb4).1 (w2.heap.size) o (by first | omega | (simp; done) | (simp; omega)); have hf4_2 := fun o => (bcell hb4).2 (w2.heap.size) o (by first | omega | (simp; done) | (simp; omega)); have : w2.heap.size < w4.heap.size := (by first | omega | (simp; done) | (simp; omega)); have : w2.heap.size < w4.heap.size + 1 := (by first | omega | (simp; done) | (simp; omega)); have : w2.heap.size < w4.heap.size + 2 := (by first | omega | (simp; done) | (simp; omega)); have : w2.heap.size < w4.heap.size + 3 := (by first | omega | (simp; done) | (simp; omega)); have hc4_3 := fun o => (bcell hb4).1 (w3.heap.size) o (by first | omega | (simp; done) | (simp; omega)); have hf4_3 := fun o => (bcell hb4).2 (w3.heap.size) o (by first | omega | (simp; done) | (simp; omega)); have : w3.heap.size < w4.heap.size := (by first | omega | (simp; done) | (simp; omega)); have : w3.heap.size < w4.heap.size + 1 := (by first | omega | (simp; done) | (simp; omega)); have : w3.heap.size < w4.heap.size + 2 := (by first | omega | (simp; done) | (simp; omega)); have : w3.heap.size < w4.heap.size + 3 := (by first | omega | (simp; done) | (simp; omega)))
  go_wp2_with fail
  refine (settings44 _ exG 2 2 10 1 _ (exG_read w4) rfl (by omega)).mono ?_
  rintro e w5 ⟨A', cap', rfl, hr, hb5⟩
  (have hz5 := hb5.size; (try simp at hz5); have hc5_0 := fun o => (bcell hb5).1 (w2.heap.size) o (by first | omega | (simp; done) | (simp; omega)); have hf5_0 := fun o => (bcell hb5).2 (w2.heap.size) o (by first | omega | (simp; done) | (simp; omega)); have : w2.heap.size < w5.heap.size := (by first | omega | (simp; done) | (simp; omega)); have : w2.heap.size < w5.heap.size + 1 := (by first | omega | (simp; done) | (simp; omega)); have : w2.heap.size < w5.heap.size + 2 := (by first | omega | (simp; done) | (simp; omega)); have : w2.heap.size < w5.heap.size + 3 := (by first | omega | (simp; done) | (simp; omega)); have hc5_1 := fun o => (bcell hb5).1 (w3.heap.size) o (by first | omega | (simp; done) | (simp; omega)); have hf5_1 := fun o => (bcell hb5).2 (w3.heap.size) o (by first | omega | (simp; done) | (simp; omega)); have : w3.heap.size < w5.heap.size := (by first | omega | (simp; done) | (simp; omega)); have : w3.heap.size < w5.heap.size + 1 := (by first | omega | (simp; done) | (simp; omega)); have : w3.heap.size < w5.heap.size + 2 := (by first | omega | (simp; done) | (simp; omega)); have : w3.heap.size < w5.heap.size + 3 := (by first | omega | (simp; done) | (simp; omega)))
  have hA := Lib.hid hr
  clear hr
  rw [e4.out.2]
  have hL : (settingsL 10 1 exG).length = 2 := by rw [e4.out.1]; rfl
  rw [hL]
  have hA2 : RdI w5 A' [47, 48] := by have := hA.out; rw [e4.out.1] at this; exact this
  have hA3 := Lib.hid (hA2.below (B := w5.heap.size) ((Below.refl _ _).alloc (Nat.le_refl _) (.cells #[.int .i64 47, .int .i64 48] 3)) (Nat.le_refl _))
  clear e1 e2 e3 e4 hL hA hA2
  go_wp2_with fail
  refine (sameInts46 _ _ [47, 48] [47, 48] 2 2 _ _ _ hA3.out (two_read w5) rfl rfl (by omega) (by omega)).mono ?_
  rintro e w6 ⟨rfl, hb6⟩
  go_wp2
  go_ret
  exact ⟨rfl, by (repeat' (first | (with_reducible exact Below.refl _ _) | (with_reducible assumption) | (with_reducible refine Below.drew ?_) | (with_reducible refine below_drewN ?_ _) | (with_reducible refine Below.setCell ?_ ?_ _) | (with_reducible refine Below.alloc ?_ ?_ _) | (refine Below.trans ?_ (Below.mono (by with_reducible assumption) ?_)) | omega | (exact Below.size (by with_reducible assumption)) | (simp; done) | (simp; omega)))⟩

end Go.Proofs.Ytfboiplpfkommaa
