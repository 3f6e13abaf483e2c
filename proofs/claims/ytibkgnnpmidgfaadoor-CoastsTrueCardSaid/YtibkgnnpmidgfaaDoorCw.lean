/- Walks: works of the program. -/
import Derived.Test.YtibkgnnpmidgfaaDoorCv
import Derived.Test.YtibkgnnpmidgfaaDoorCn
import Derived.Test.YtibkgnnpmidgfaaDoorCs
namespace Go.Proofs.YtibkgnnpmidgfaaDoor
open Go.RowKit Go.Maps

theorem ex_many : manyN 0 exB exD exR = 8 := by decide +kernel
theorem ex_opE : opE 0 exB exD exR true = 0 := by decide +kernel
theorem ex_cntL : cntL 0 exB exD exR 6 0 4 = [2, 3, 4] := by decide +kernel
theorem ex_cntE : cntE 0 exB exD exR 6 0 4 = 0 := by decide +kernel
theorem ex_lngN : lngN 0 exB exD exR 7 = 14 := by decide +kernel
theorem ex_lngE : lngE 0 exB exD exR 7 = 0 := by decide +kernel
theorem ex_opnN : opnN 0 exB exD exR 0 4 1 = 12 := by decide +kernel
theorem ex_opnE : opnE 0 exB exD exR 0 4 1 = 0 := by decide +kernel
theorem ex_lonN : lonN 0 exB exD exR 0 1 = 3 := by decide +kernel
theorem ex_lonE : opE 0 exB exD exR (isDv2 exD 0 1) = 0 := by decide +kernel

set_option maxRecDepth 100000 in
set_option maxHeartbeats 4000000 in
theorem works21 (w : World) (hT : Tab w) : Calls Tryd.prog 21 #[] w fun e w' => e = .returned (.bool true) ∧ Below w.heap.size w w' := by
  have HT := Lib.hid hT
  clear hT
  go_enter Tryd.func21, Tryd.ntmps21
  go_wp2_with fail
  refine (example54 _).mono ?_
  rintro e w1 ⟨b0, b1, b2, rfl, hC, hb1⟩
  have HC := Lib.hid hC
  have o0 : Own (w1.alloc (.cells #[.slice (some ⟨b0, 0, none⟩) 5 5, .slice (some ⟨b1, 0, none⟩) 2 2, .slice (some ⟨b2, 0, none⟩) 3 3, .int .i64 0] 26)) w1.heap.size [.slice (some ⟨b0, 0, none⟩) 5 5, .slice (some ⟨b1, 0, none⟩) 2 2, .slice (some ⟨b2, 0, none⟩) 3 3, .int .i64 0] := Own.new' _ _ rfl rfl
  have oB : Below w1.heap.size w1 (w1.alloc (.cells #[.slice (some ⟨b0, 0, none⟩) 5 5, .slice (some ⟨b1, 0, none⟩) 2 2, .slice (some ⟨b2, 0, none⟩) 3 3, .int .i64 0] 26)) := by (repeat' (first | (with_reducible exact Below.refl _ _) | (with_reducible assumption) | (with_reducible refine Below.drew ?_) | (with_reducible refine below_drewN ?_ _) | (with_reducible refine Below.setCell ?_ ?_ _) | (with_reducible refine Below.alloc ?_ ?_ _) | (refine Below.trans ?_ (Below.mono (by with_reducible assumption) ?_)) | omega | (exact Below.size (by with_reducible assumption)) | (simp; done) | (simp; omega)))
  clear hC
  go_wp2_with fail
  refine (many34 _ _ _ _ _ _ _ _ _ _ exB exD exR _ (HC.out.below oB (Nat.le_refl _))).mono ?_
  rw [ex_many, ex_opE]
  rintro e w2 ⟨rfl, hb2⟩
  have q2 := o0.below hb2 o0.lt
  have hB2 : Below w1.heap.size w1 w2 := by (repeat' (first | (with_reducible exact Below.refl _ _) | (with_reducible assumption) | (with_reducible refine Below.drew ?_) | (with_reducible refine below_drewN ?_ _) | (with_reducible refine Below.setCell ?_ ?_ _) | (with_reducible refine Below.alloc ?_ ?_ _) | (refine Below.trans ?_ (Below.mono (by with_reducible assumption) ?_)) | omega | (exact Below.size (by with_reducible assumption)) | (simp; done) | (simp; omega)))
  obtain ⟨l2, k2, f2⟩ := q2
  have q2 := Own.mk l2 k2 f2
  clear o0 oB hb2
  go_wp2_with fail
  refine (counts22 _ _ _ _ _ _ _ _ _ _ 6 0 4 exB exD exR _ (HC.out.below hB2 (Nat.le_refl _)) (by omega) (by omega)).mono ?_
  rw [ex_cntL, ex_cntE]
  rintro e w3 ⟨A3, cap3, rfl, hr3, hb3⟩
  have hr := Lib.hid hr3
  have q3 := q2.below hb3 q2.lt
  have hB3 : Below w1.heap.size w1 w3 := by (repeat' (first | (with_reducible exact Below.refl _ _) | (with_reducible assumption) | (with_reducible refine Below.drew ?_) | (with_reducible refine below_drewN ?_ _) | (with_reducible refine Below.setCell ?_ ?_ _) | (with_reducible refine Below.alloc ?_ ?_ _) | (refine Below.trans ?_ (Below.mono (by with_reducible assumption) ?_)) | omega | (exact Below.size (by with_reducible assumption)) | (simp; done) | (simp; omega)))
  clear q2 hr3 hb3 l2 k2 f2
  obtain ⟨l3, k3, f3⟩ := q3
  have q3 := Own.mk l3 k3 f3
  go_wp2_with fail
  refine (length30 _ _ _ _ _ _ _ _ _ _ 7 exB exD exR _ (HC.out.below hB3 (Nat.le_refl _)) ((HT.out.below hb1 (Nat.le_refl _)).below hB3 (Nat.le_refl _))).mono ?_
  rw [ex_lngN, ex_lngE]
  rintro e w4 ⟨rfl, hb4⟩
  have q4 := q3.below hb4 q3.lt
  have hr4 := Lib.hid (hr.out.below hb4 (Nat.le_refl _))
  have hB4 : Below w1.heap.size w1 w4 := by (repeat' (first | (with_reducible exact Below.refl _ _) | (with_reducible assumption) | (with_reducible refine Below.drew ?_) | (with_reducible refine below_drewN ?_ _) | (with_reducible refine Below.setCell ?_ ?_ _) | (with_reducible refine Below.alloc ?_ ?_ _) | (refine Below.trans ?_ (Below.mono (by with_reducible assumption) ?_)) | omega | (exact Below.size (by with_reducible assumption)) | (simp; done) | (simp; omega)))
  clear q3 hb4 l3 k3 f3 hr
  obtain ⟨l4, k4, f4⟩ := q4
  have q4 := Own.mk l4 k4 f4
  go_wp2_with fail
  refine (opening18 _ _ _ _ _ _ _ _ _ _ 0 4 1 exB exD exR _ (HC.out.below hB4 (Nat.le_refl _)) ((HT.out.below hb1 (Nat.le_refl _)).below hB4 (Nat.le_refl _)) (by omega) (by omega)).mono ?_
  rw [ex_opnN, ex_opnE]
  rintro e w5 ⟨rfl, hb5⟩
  have q5 := q4.below hb5 q4.lt
  have hr5 := Lib.hid (hr4.out.below hb5 (Nat.le_refl _))
  have hB5 : Below w1.heap.size w1 w5 := by (repeat' (first | (with_reducible exact Below.refl _ _) | (with_reducible assumption) | (with_reducible refine Below.drew ?_) | (with_reducible refine below_drewN ?_ _) | (with_reducible refine Below.setCell ?_ ?_ _) | (with_reducible refine Below.alloc ?_ ?_ _) | (refine Below.trans ?_ (Below.mono (by with_reducible assumption) ?_)) | omega | (exact Below.size (by with_reducible assumption)) | (simp; done) | (simp; omega)))
  clear q4 hb5 l4 k4 f4 hr4
  obtain ⟨l5, k5, f5⟩ := q5
  go_wp2_with fail
  refine (longer29 _ _ _ _ _ _ _ _ _ _ 0 1 exB exD exR _ (HC.out.below hB5 (Nat.le_refl _)) ((HT.out.below hb1 (Nat.le_refl _)).below hB5 (Nat.le_refl _))).mono ?_
  rw [ex_lonN, ex_lonE]
  rintro e w6 ⟨rfl, hb6⟩
  have hr6 := Lib.hid (hr5.out.below hb6 (Nat.le_refl _))
  have hB6 : Below w1.heap.size w1 w6 := by (repeat' (first | (with_reducible exact Below.refl _ _) | (with_reducible assumption) | (with_reducible refine Below.drew ?_) | (with_reducible refine below_drewN ?_ _) | (with_reducible refine Below.setCell ?_ ?_ _) | (with_reducible refine Below.alloc ?_ ?_ _) | (refine Below.trans ?_ (Below.mono (by with_reducible assumption) ?_)) | omega | (exact Below.size (by with_reducible assumption)) | (simp; done) | (simp; omega)))
  have hB7 : Below w.heap.size w w6 := by (repeat' (first | (with_reducible exact Below.refl _ _) | (with_reducible assumption) | (with_reducible refine Below.drew ?_) | (with_reducible refine below_drewN ?_ _) | (with_reducible refine Below.setCell ?_ ?_ _) | (with_reducible refine Below.alloc ?_ ?_ _) | (refine Below.trans ?_ (Below.mono (by with_reducible assumption) ?_)) | omega | (exact Below.size (by with_reducible assumption)) | (simp; done) | (simp; omega)))
  clear hb6 l5 k5 f5 hr5 hB2 hB3 hB4 hB5
  go_wp2_with fail
  have oY : Below w6.heap.size w6 (w6.alloc (.cells #[.int .i64 2, .int .i64 3, .int .i64 4] 3)) := by (repeat' (first | (with_reducible exact Below.refl _ _) | (with_reducible assumption) | (with_reducible refine Below.drew ?_) | (with_reducible refine below_drewN ?_ _) | (with_reducible refine Below.setCell ?_ ?_ _) | (with_reducible refine Below.alloc ?_ ?_ _) | (refine Below.trans ?_ (Below.mono (by with_reducible assumption) ?_)) | omega | (exact Below.size (by with_reducible assumption)) | (simp; done) | (simp; omega)))
  refine (sameInts31 _ _ _ _ _ _ [2, 3, 4] [2, 3, 4] _ (hr6.out.below oY (Nat.le_refl _)) (Own.rd (vs := [.int .i64 2, .int .i64 3, .int .i64 4]) (Own.new' _ _ rfl rfl) rfl (by simp [irow])) rfl rfl (by decide) (by decide)).mono ?_
  rw [show decide (([2, 3, 4] : List Int) = [2, 3, 4]) = true from rfl]
  rintro e w7 ⟨rfl, hb7⟩
  go_wp2
  go_ret
  have hz6 := hB7.size
  exact ⟨rfl, (hB7.trans ((oY.trans (hb7.mono (by simp))).mono hz6))⟩

end Go.Proofs.YtibkgnnpmidgfaaDoor
