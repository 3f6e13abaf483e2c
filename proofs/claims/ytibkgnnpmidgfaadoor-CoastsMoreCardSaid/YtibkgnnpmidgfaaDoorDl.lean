/- Walks: inside of the program. -/
import Derived.Test.YtibkgnnpmidgfaaDoorMoP
import Derived.Test.YtibkgnnpmidgfaaDoorDc
namespace Go.Proofs.YtibkgnnpmidgfaaDoor
open Go.RowKit Go.Maps

theorem opE_03 {cw : Int} {B D : List Pt} {R : List Rep} (h : chkE cw B D R = 0) : opE cw B D R true = 0 ∨ opE cw B D R true = 3 := by
  rw [opE_iff h]; split <;> simp

set_option maxRecDepth 100000 in
set_option maxHeartbeats 8000000 in
theorem inside35 (X0 X1 X2 : Option Addr) (m0 m1 m2 y0 y1 y2 : Nat) (A0 A1 A2 : Option Addr) (n0 n1 n2 c0 c1 c2 : Nat) (cw : Int) (d : Nat) (D' : List Pt) (R' : List Rep) (B D : List Pt) (R : List Rep) (w : World) (hA : RdC w X0 X1 X2 m0 m1 m2 B D' R') (hC : RdC w A0 A1 A2 n0 n1 n2 B D R) (hchk : Hid (chkE cw B D R = 0)) (hN : Hid (chkE cw B D' R' = 0 → Narrow B D R D' R')) (hd : Hid (d < D.length)) :
    Calls Tryd.prog 35 #[.agg #[.slice X0 m0 y0, .slice X1 m1 y1, .slice X2 m2 y2, .int .i64 cw], .agg #[.slice A0 n0 c0, .slice A1 n1 c1, .slice A2 n2 c2, .int .i64 cw], .int .i64 d] w fun e w' => e = .returned (.bool true) ∧ Below w.heap.size w w' := by
  have HA := Lib.hid hA
  have HC := Lib.hid hC
  clear hA hC
  have o0 : Own ((w.alloc (.cells #[.slice X0 m0 y0, .slice X1 m1 y1, .slice X2 m2 y2, .int .i64 cw] 26)).alloc (.cells #[.slice A0 n0 c0, .slice A1 n1 c1, .slice A2 n2 c2, .int .i64 cw] 26)) w.heap.size [.slice X0 m0 y0, .slice X1 m1 y1, .slice X2 m2 y2, .int .i64 cw] := (Own.new' _ _ rfl rfl).alloc _
  have o1 : Own ((w.alloc (.cells #[.slice X0 m0 y0, .slice X1 m1 y1, .slice X2 m2 y2, .int .i64 cw] 26)).alloc (.cells #[.slice A0 n0 c0, .slice A1 n1 c1, .slice A2 n2 c2, .int .i64 cw] 26)) (w.heap.size + 1) [.slice A0 n0 c0, .slice A1 n1 c1, .slice A2 n2 c2, .int .i64 cw] := Own.new' _ _ (by simp) rfl
  have oB : Below w.heap.size w ((w.alloc (.cells #[.slice X0 m0 y0, .slice X1 m1 y1, .slice X2 m2 y2, .int .i64 cw] 26)).alloc (.cells #[.slice A0 n0 c0, .slice A1 n1 c1, .slice A2 n2 c2, .int .i64 cw] 26)) := by (repeat' (first | (with_reducible exact Below.refl _ _) | (with_reducible assumption) | (with_reducible refine Below.drew ?_) | (with_reducible refine below_drewN ?_ _) | (with_reducible refine Below.setCell ?_ ?_ _) | (with_reducible refine Below.alloc ?_ ?_ _) | (refine Below.trans ?_ (Below.mono (by with_reducible assumption) ?_)) | omega | (exact Below.size (by with_reducible assumption)) | (simp; done) | (simp; omega)))
  go_enter Tryd.func35, Tryd.ntmps35
  go_wp2_with fail
  refine (ready19 X0 X1 X2 m0 m1 m2 y0 y1 y2 cw B D' R' _ (HA.out.below oB (Nat.le_refl _))).mono ?_
  rintro e w1 ⟨b, rfl, hrdy, hb1⟩
  have q0 := o0.below hb1 o0.lt
  have q1 := o1.below hb1 o1.lt
  have hB1 : Below w.heap.size w w1 := by (repeat' (first | (with_reducible exact Below.refl _ _) | (with_reducible assumption) | (with_reducible refine Below.drew ?_) | (with_reducible refine below_drewN ?_ _) | (with_reducible refine Below.setCell ?_ ?_ _) | (with_reducible refine Below.alloc ?_ ?_ _) | (refine Below.trans ?_ (Below.mono (by with_reducible assumption) ?_)) | omega | (exact Below.size (by with_reducible assumption)) | (simp; done) | (simp; omega)))
  clear o0 o1 oB hb1
  obtain ⟨l0, k0, f0⟩ := q0
  have q0 := Own.mk l0 k0 f0
  obtain ⟨l1, k1, f1⟩ := q1
  have q1 := Own.mk l1 k1 f1
  cases b
  · go_wp2
    go_ret
    exact ⟨rfl, hB1⟩
  · have H := Lib.hid (hrdy rfl)
    have N := Lib.hid (hN.out H.out)
    clear hrdy
    have hE' := opE_03 H.out
    obtain ⟨E', hEE'⟩ : ∃ x, opE cw B D' R' true = x := ⟨_, rfl⟩
    rw [hEE'] at hE'
    have HE' := Lib.hid hEE'
    obtain ⟨E, hEE⟩ : ∃ x, opE cw B D R true = x := ⟨_, rfl⟩
    have hE := opE_03 hchk.out
    rw [hEE] at hE
    have HE := Lib.hid hEE
    obtain ⟨M', hM'⟩ : ∃ x, manyN cw B D' R' = x := ⟨_, rfl⟩
    have HM' := Lib.hid hM'
    obtain ⟨M, hM⟩ : ∃ x, manyN cw B D R = x := ⟨_, rfl⟩
    have HM := Lib.hid hM
    have HK' := Lib.hid hE'
    have HK := Lib.hid hE
    clear hE hE' hEE' hEE hM' hM
    go_wp2_with fail
    refine (many34 X0 X1 X2 m0 m1 m2 y0 y1 y2 cw B D' R' _ (HA.out.below hB1 (Nat.le_refl _))).mono ?_
    rw [HM'.out, HE'.out]
    rintro e w2 ⟨rfl, hb2⟩
    have hB2 : Below w.heap.size w w2 := by (repeat' (first | (with_reducible exact Below.refl _ _) | (with_reducible assumption) | (with_reducible refine Below.drew ?_) | (with_reducible refine below_drewN ?_ _) | (with_reducible refine Below.setCell ?_ ?_ _) | (with_reducible refine Below.alloc ?_ ?_ _) | (refine Below.trans ?_ (Below.mono (by with_reducible assumption) ?_)) | omega | (exact Below.size (by with_reducible assumption)) | (simp; done) | (simp; omega)))
    have q2 := q0.below hb2 q0.lt
    have r2 := q1.below hb2 q1.lt
    clear q0 q1 l0 k0 f0 l1 k1 f1 hb2 hB1
    obtain ⟨l0, k0, f0⟩ := q2
    have q0 := Own.mk l0 k0 f0
    obtain ⟨l1, k1, f1⟩ := r2
    have q1 := Own.mk l1 k1 f1
    go_wp2_with fail
    refine (many34 A0 A1 A2 n0 n1 n2 c0 c1 c2 cw B D R _ (HC.out.below hB2 (Nat.le_refl _))).mono ?_
    rw [HM.out, HE.out]
    rintro e w3 ⟨rfl, hb3⟩
    have hB3 : Below w.heap.size w w3 := by (repeat' (first | (with_reducible exact Below.refl _ _) | (with_reducible assumption) | (with_reducible refine Below.drew ?_) | (with_reducible refine below_drewN ?_ _) | (with_reducible refine Below.setCell ?_ ?_ _) | (with_reducible refine Below.alloc ?_ ?_ _) | (refine Below.trans ?_ (Below.mono (by with_reducible assumption) ?_)) | omega | (exact Below.size (by with_reducible assumption)) | (simp; done) | (simp; omega)))
    have q2 := q0.below hb3 q0.lt
    have r2 := q1.below hb3 q1.lt
    clear q0 q1 l0 k0 f0 l1 k1 f1 hb3 hB2
    obtain ⟨l0, k0, f0⟩ := q2
    have q0 := Own.mk l0 k0 f0
    obtain ⟨l1, k1, f1⟩ := r2
    have q1 := Own.mk l1 k1 f1
    rcases HK'.out with h0 | h0
    · subst h0
      have I := Lib.hid (in2_of (d := d) hchk.out H.out N.out hd.out HE'.out)
      have hE0 : E = 0 := by rw [← HE.out]; exact I.out.op
      subst hE0
      have hm1 := I.out.m1
      have hm2 := I.out.m2
      rw [HM'.out] at hm1 hm2
      rw [HM.out] at hm2
      have hdv : Hid (isDv D d = true) := by have := hd.out; show _ = _; unfold isDv; rw [btw_iff]; omega
      have hdv' : Hid (isDv D' d = true) := by have := hd.out; have := N.out.len; show _ = _; unfold isDv; rw [btw_iff]; omega
      have hgs : Hid (opgL cw B D R d = opsD cw B D R d) := by show _ = _; unfold opgL; rw [hdv.out, if_pos HE.out]; rfl
      have hgs' : Hid (opgL cw B D' R' d = opsD cw B D' R' d) := by show _ = _; unfold opgL; rw [hdv'.out, if_pos HE'.out]; rfl
      have hl := opsD_len (R := R) (val_of (chk_ok hchk.out)) hd.out
      have hl' : (opsD cw B D' R' d).length ≤ (opsD cw B D R d).length := I.out.len
      have HSUB := Lib.hid I.out.sub
      obtain ⟨xs, hxs⟩ : ∃ x, opsD cw B D' R' d = x := ⟨_, rfl⟩
      obtain ⟨ys, hys⟩ : ∃ x, opsD cw B D R d = x := ⟨_, rfl⟩
      rw [hxs] at hgs' hl' HSUB
      rw [hys] at hgs hl hl' HSUB
      clear hxs hys
      go_wp2_with (first | (go_at_call 23; refine (isKnown23 _ _ (Or.inl rfl)).mono ?_; rintro e wk ⟨rfl, rfl⟩) | fail)
      refine (openings28 X0 X1 X2 m0 m1 m2 y0 y1 y2 cw d B D' R' _ (HA.out.below hB3 (Nat.le_refl _))).mono ?_
      rw [hgs'.out, hdv'.out, HE'.out]
      rintro e w4 ⟨A4, cap4, rfl, hr4, hb4⟩
      have hB4 : Below w.heap.size w w4 := by (repeat' (first | (with_reducible exact Below.refl _ _) | (with_reducible assumption) | (with_reducible refine Below.drew ?_) | (with_reducible refine below_drewN ?_ _) | (with_reducible refine Below.setCell ?_ ?_ _) | (with_reducible refine Below.alloc ?_ ?_ _) | (refine Below.trans ?_ (Below.mono (by with_reducible assumption) ?_)) | omega | (exact Below.size (by with_reducible assumption)) | (simp; done) | (simp; omega)))
      have q2 := q0.below hb4 q0.lt
      have r2 := q1.below hb4 q1.lt
      clear q0 q1 l0 k0 f0 l1 k1 f1 hb4 hB3
      obtain ⟨l0, k0, f0⟩ := q2
      have q0 := Own.mk l0 k0 f0
      obtain ⟨l1, k1, f1⟩ := r2
      have q1 := Own.mk l1 k1 f1
      have HR4 := Lib.hid hr4
      clear hr4
      go_wp2_with fail
      refine (openings28 A0 A1 A2 n0 n1 n2 c0 c1 c2 cw d B D R _ (HC.out.below hB4 (Nat.le_refl _))).mono ?_
      rw [hgs.out, hdv.out, HE.out]
      rintro e w5 ⟨A5, cap5, rfl, hr5, hb5⟩
      have hB5 : Below w.heap.size w w5 := by (repeat' (first | (with_reducible exact Below.refl _ _) | (with_reducible assumption) | (with_reducible refine Below.drew ?_) | (with_reducible refine below_drewN ?_ _) | (with_reducible refine Below.setCell ?_ ?_ _) | (with_reducible refine Below.alloc ?_ ?_ _) | (refine Below.trans ?_ (Below.mono (by with_reducible assumption) ?_)) | omega | (exact Below.size (by with_reducible assumption)) | (simp; done) | (simp; omega)))
      have hr4 := HR4.out.below hb5 (Nat.le_refl _)
      have HR4 := Lib.hid hr4
      have HR5 := Lib.hid hr5
      clear hr4 hr5 hb5 hB4
      go_wp2_with fail
      refine (subset24 A4 A5 xs.length ys.length cap4 cap5 xs ys _ HR4.out HR5.out rfl rfl (by omega) (by omega) HSUB.out hl').mono ?_
      rintro e w6 ⟨rfl, rfl⟩
      go_wp2
      go_ret
      exact ⟨rfl, hB5⟩
    · subst h0
      rcases HK.out with h1 | h1
      · subst h1
        go_wp2_with (first | (go_at_call 23; refine (isKnown23 _ _ (by first | exact Or.inr rfl | exact Or.inl rfl)).mono ?_; rintro e wk ⟨rfl, rfl⟩) | fail)
        go_ret
        exact ⟨rfl, hB3⟩
      · subst h1
        go_wp2_with (first | (go_at_call 23; refine (isKnown23 _ _ (by first | exact Or.inr rfl | exact Or.inl rfl)).mono ?_; rintro e wk ⟨rfl, rfl⟩) | fail)
        go_ret
        exact ⟨rfl, hB3⟩

end Go.Proofs.YtibkgnnpmidgfaaDoor
