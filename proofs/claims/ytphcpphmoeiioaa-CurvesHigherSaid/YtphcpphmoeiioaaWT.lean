/- Walks: Example, works of the program. -/
import Derived.Test.YtphcpphmoeiioaaWS
import Derived.Test.YtphcpphmoeiioaaExP
import Derived.Test.YtphcpphmoeiioaaWL
import Derived.Test.YtphcpphmoeiioaaWM
namespace Go.Proofs.Ytphcpphmoeiioaa
open Go.RowKit Go.Maps

set_option maxRecDepth 100000 in
set_option maxHeartbeats 4000000 in
theorem example49 (w : World) :
    Calls Try.prog 49 #[] w fun e w' => ∃ b : Nat, e = .returned (.agg #[.int .i64 4, .int .i64 3, .int .i64 0, .int .i64 10, .slice (some ⟨b, 0, none⟩) 2 2, .int .i64 0]) ∧ Rd 3 w' (some ⟨b, 0, none⟩) (exK.map krow) ∧ Below w.heap.size w w' := by
  go_enter Try.func49, Try.ntmps49
  go_wp2
  trace_state
  go_returns
  refine ⟨w.heap.size + 1, rfl, ?_, ?_⟩
  · refine Own.rd (vs := [.int .i64 0, .int .i64 0, .int .i64 0, .int .i64 4, .int .i64 6, .int .i64 6]) ?_ rfl (by simp [exK, krow])
    exact Own.new' _ _ (by simp) rfl
  · (repeat' (first | (with_reducible exact Below.refl _ _) | (with_reducible assumption) | (with_reducible refine Below.drew ?_) | (with_reducible refine below_drewN ?_ _) | (with_reducible refine Below.setCell ?_ ?_ _) | (with_reducible refine Below.alloc ?_ ?_ _) | (refine Below.trans ?_ (Below.mono (by with_reducible assumption) ?_)) | omega | (exact Below.size (by with_reducible assumption)) | (simp; done) | (simp; omega)))
set_option maxRecDepth 100000 in
set_option maxHeartbeats 4000000 in
theorem works13 (w : World) : Calls Try.prog 13 #[] w fun e w' => e = .returned (.bool true) ∧ Below w.heap.size w w' := by
  go_enter Try.func13, Try.ntmps13
  go_wp2_with fail
  refine (example49 _).mono ?_
  rintro e w1 ⟨b, rfl, hA, hb1⟩
  have HA := Lib.hid hA
  clear hA
  have hz1 := hb1.size
  go_wp2_with fail
  refine calls_gen fun W1 hW1 => ?_
  have o1 : Own W1 w1.heap.size [.int .i64 4, .int .i64 3, .int .i64 0, .int .i64 10, .slice (some ⟨b, 0, none⟩) 2 2, .int .i64 0] := by rw [hW1]; exact Own.new' _ _ rfl rfl
  have hB1 : Below w1.heap.size w1 W1 := by rw [hW1]; (repeat' (first | (with_reducible exact Below.refl _ _) | (with_reducible assumption) | (with_reducible refine Below.drew ?_) | (with_reducible refine below_drewN ?_ _) | (with_reducible refine Below.setCell ?_ ?_ _) | (with_reducible refine Below.alloc ?_ ?_ _) | (refine Below.trans ?_ (Below.mono (by with_reducible assumption) ?_)) | omega | (exact Below.size (by with_reducible assumption)) | (simp; done) | (simp; omega)))
  clear hW1
  refine (height31 4 3 0 10 0 (some ⟨b, 0, none⟩) 2 2 exK 3 W1 (HA.out.below hB1 (Nat.le_refl _)) rfl (by omega)).mono ?_
  rintro e w2 ⟨lo, hi, er, rfl, hR, hb2⟩
  obtain ⟨rfl, rfl, rfl⟩ := ex_height hR.out
  have hB2 := hB1.trans (hb2.mono hB1.size)
  have o2 := o1.below hb2 o1.lt
  have ho2 := Lib.hid o2
  clear hb2 hB1 o1 hR
  obtain ⟨l2, k2, f2⟩ := o2
  go_wp2_with fail
  refine calls_gen fun W2 hW2 => ?_
  have p0 : Own W2 w1.heap.size [.int .i64 4, .int .i64 3, .int .i64 0, .int .i64 10, .slice (some ⟨b, 0, none⟩) 2 2, .int .i64 0] := by rw [hW2]; exact ho2.out.alloc _
  have p1 : Own W2 w2.heap.size [.int .i64 3, .int .i64 9] := by rw [hW2]; exact Own.new' _ _ rfl rfl
  have hB2' : Below w1.heap.size w1 W2 := by rw [hW2]; (repeat' (first | (with_reducible exact Below.refl _ _) | (with_reducible assumption) | (with_reducible refine Below.drew ?_) | (with_reducible refine below_drewN ?_ _) | (with_reducible refine Below.setCell ?_ ?_ _) | (with_reducible refine Below.alloc ?_ ?_ _) | (refine Below.trans ?_ (Below.mono (by with_reducible assumption) ?_)) | omega | (exact Below.size (by with_reducible assumption)) | (simp; done) | (simp; omega)))
  clear hW2 ho2 l2 k2 f2
  refine (integral20 4 3 0 10 0 (some ⟨b, 0, none⟩) 2 2 exK 0 4 W2 (HA.out.below hB2' (Nat.le_refl _)) rfl (by omega)).mono ?_
  rintro e w3 ⟨lo, hi, er, rfl, hR, hb3⟩
  obtain ⟨rfl, rfl, rfl⟩ := ex_integral hR.out
  have hB3 := hB2'.trans (hb3.mono hB2'.size)
  have q0 := Lib.hid (p0.below hb3 p0.lt)
  have q1 := Lib.hid (p1.below hb3 p1.lt)
  clear hb3 hB2 hB2' p0 p1 hR
  obtain ⟨l3, k3, f3⟩ := q0.out
  go_wp2_with fail
  refine calls_gen fun W3 hW3 => ?_
  have p0 : Own W3 w1.heap.size [.int .i64 4, .int .i64 3, .int .i64 0, .int .i64 10, .slice (some ⟨b, 0, none⟩) 2 2, .int .i64 0] := by rw [hW3]; exact q0.out.alloc _
  have p1 : Own W3 w2.heap.size [.int .i64 3, .int .i64 9] := by rw [hW3]; exact q1.out.alloc _
  have p2 : Own W3 w3.heap.size [.int .i64 12, .int .i64 42] := by rw [hW3]; exact Own.new' _ _ rfl rfl
  have hB3' : Below w1.heap.size w1 W3 := by rw [hW3]; (repeat' (first | (with_reducible exact Below.refl _ _) | (with_reducible assumption) | (with_reducible refine Below.drew ?_) | (with_reducible refine below_drewN ?_ _) | (with_reducible refine Below.setCell ?_ ?_ _) | (with_reducible refine Below.alloc ?_ ?_ _) | (refine Below.trans ?_ (Below.mono (by with_reducible assumption) ?_)) | omega | (exact Below.size (by with_reducible assumption)) | (simp; done) | (simp; omega)))
  clear hW3 q0 q1 l3 k3 f3
  refine (best25 4 3 0 10 0 (some ⟨b, 0, none⟩) 2 2 exK W3 (HA.out.below hB3' (Nat.le_refl _)) rfl (by omega)).mono ?_
  rintro e w4 ⟨A4, cap4, ls, er, rfl, hR, hr4, hll, hb4⟩
  obtain ⟨em, rfl⟩ := ex_draw hR.out
  rw [em] at hr4 ⊢
  have hB4 := hB3'.trans (hb4.mono hB3'.size)
  have q0 := Lib.hid (p0.below hb4 p0.lt)
  have q1 := Lib.hid (p1.below hb4 p1.lt)
  have q2 := Lib.hid (p2.below hb4 p2.lt)
  have HR4 := Lib.hid hr4
  clear hb4 hB3 hB3' p0 p1 p2 hR hr4
  obtain ⟨l3, k3, f3⟩ := q0.out
  go_wp2_with fail
  refine (next15 4 3 0 10 0 (some ⟨b, 0, none⟩) 2 2 exK w4 (HA.out.below hB4 (Nat.le_refl _)) rfl (by omega)).mono ?_
  rintro e w5 ⟨nx, er, rfl, hR, hb5⟩
  obtain ⟨rfl, rfl⟩ := ex_next hR.out
  have hB5 := hB4.trans (hb5.mono hB4.size)
  have q1' := Lib.hid (q1.out.below hb5 q1.out.lt)
  have q2' := Lib.hid (q2.out.below hb5 q2.out.lt)
  have HR5 := Lib.hid (HR4.out.below hb5 (Nat.le_refl _))
  clear hb5 hB4 q0 q1 q2 hR HR4 l3 k3 f3
  obtain ⟨l1, k1, f1⟩ := q1'.out
  obtain ⟨l2, k2, f2⟩ := q2'.out
  go_wp2_with fail
  have oY : Below w5.heap.size w5 (w5.alloc (.cells #[.int .i64 0, .int .i64 1, .int .i64 6, .int .i64 15, .int .i64 27] 3)) := by (repeat' (first | (with_reducible exact Below.refl _ _) | (with_reducible assumption) | (with_reducible refine Below.drew ?_) | (with_reducible refine below_drewN ?_ _) | (with_reducible refine Below.setCell ?_ ?_ _) | (with_reducible refine Below.alloc ?_ ?_ _) | (refine Below.trans ?_ (Below.mono (by with_reducible assumption) ?_)) | omega | (exact Below.size (by with_reducible assumption)) | (simp; done) | (simp; omega)))
  refine (sameInts30 _ _ _ _ _ _ [0, 1, 6, 15, 27] [0, 1, 6, 15, 27] _ (HR5.out.below oY (Nat.le_refl _)) (Own.rd (vs := [.int .i64 0, .int .i64 1, .int .i64 6, .int .i64 15, .int .i64 27]) (Own.new' _ _ rfl rfl) rfl (by simp [irow])) rfl rfl (by decide) (by decide)).mono ?_
  rw [show decide (([0, 1, 6, 15, 27] : List Int) = [0, 1, 6, 15, 27]) = true from rfl]
  rintro e w7 ⟨rfl, hb7⟩
  have hz5 := hB5.size
  have hB7 : Below w.heap.size w w7 := (hb1.trans (hB5.mono hz1)).trans ((oY.trans (hb7.mono (by simp))).mono (by omega))
  go_wp2
  go_ret
  exact ⟨rfl, hB7⟩
end Go.Proofs.Ytphcpphmoeiioaa
