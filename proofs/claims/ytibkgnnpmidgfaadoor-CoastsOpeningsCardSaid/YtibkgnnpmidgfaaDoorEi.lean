/- Walks: CoastsOpenings of the program. -/
import Derived.Test.YtibkgnnpmidgfaaDoorFa
import Derived.Test.YtibkgnnpmidgfaaDoorEc
namespace Go.Proofs.YtibkgnnpmidgfaaDoor
open Go.RowKit

theorem opgL_len60 {cw : Int} {B D : List Pt} {R : List Rep} (d : Int) : (opgL cw B D R d).length ≤ 60 := by
  unfold opgL
  split
  · rename_i h
    obtain ⟨h1, h2⟩ := opE_true h
    unfold isDv at h1
    have h3 := btw_iff.1 h1
    exact opsD_len (val_of h2) (by omega)
  · simp

set_option maxRecDepth 100000 in
set_option maxHeartbeats 8000000 in
theorem openings8 (A0 A1 A2 : Option Addr) (n0 n1 n2 c0 c1 c2 : Nat) (cw : Int) (d : Int) (B D : List Pt) (R : List Rep) (w : World) (hC : RdC w A0 A1 A2 n0 n1 n2 B D R) (hT : Tab w) :
    Calls Tryd.prog 8 #[.agg #[.slice A0 n0 c0, .slice A1 n1 c1, .slice A2 n2 c2, .int .i64 cw], .int .i64 d] w fun e w' => e = .returned (.bool true) ∧ Below w.heap.size w w' := by
  have HC := Lib.hid hC
  have HT := Lib.hid hT
  clear hC hT
  have o0 : Own (w.alloc (.cells #[.slice A0 n0 c0, .slice A1 n1 c1, .slice A2 n2 c2, .int .i64 cw] 26)) w.heap.size [.slice A0 n0 c0, .slice A1 n1 c1, .slice A2 n2 c2, .int .i64 cw] := Own.new' _ _ rfl rfl
  have oB : Below w.heap.size w (w.alloc (.cells #[.slice A0 n0 c0, .slice A1 n1 c1, .slice A2 n2 c2, .int .i64 cw] 26)) := by (repeat' (first | (with_reducible exact Below.refl _ _) | (with_reducible assumption) | (with_reducible refine Below.drew ?_) | (with_reducible refine below_drewN ?_ _) | (with_reducible refine Below.setCell ?_ ?_ _) | (with_reducible refine Below.alloc ?_ ?_ _) | (refine Below.trans ?_ (Below.mono (by with_reducible assumption) ?_)) | omega | (exact Below.size (by with_reducible assumption)) | (simp; done) | (simp; omega)))
  go_enter Tryd.func8, Tryd.ntmps8
  go_wp2_with fail
  refine (far13L A0 A1 A2 n0 n1 n2 c0 c1 c2 cw B D R _ (HC.out.below oB (Nat.le_refl _))).mono ?_
  rintro e w1 ⟨⟨b, rfl, hfar⟩, hb1⟩
  have s0 := o0.below hb1 o0.lt
  have hB1 : Below w.heap.size w w1 := by (repeat' (first | (with_reducible exact Below.refl _ _) | (with_reducible assumption) | (with_reducible refine Below.drew ?_) | (with_reducible refine below_drewN ?_ _) | (with_reducible refine Below.setCell ?_ ?_ _) | (with_reducible refine Below.alloc ?_ ?_ _) | (refine Below.trans ?_ (Below.mono (by with_reducible assumption) ?_)) | omega | (exact Below.size (by with_reducible assumption)) | (simp; done) | (simp; omega)))
  obtain ⟨l0, k0, f0⟩ := s0
  have s0 := Own.mk l0 k0 f0
  clear o0 oB hb1
  cases b
  · obtain ⟨m0, m1, m2⟩ := hfar rfl
    clear hfar
    go_wp2_with fail
    refine (copy27x A0 A1 A2 n0 n1 n2 c0 c1 c2 cw B D R _ (HC.out.below hB1 (Nat.le_refl _)) (by omega) (by omega) (by omega)).mono ?_
    rintro e w2 ⟨X0, X1, X2, x0, x1, x2, rfl, G0, G1, G2, hb2⟩
    have p0 := s0.below hb2 s0.lt
    have hB2 : Below w.heap.size w w2 := by (repeat' (first | (with_reducible exact Below.refl _ _) | (with_reducible assumption) | (with_reducible refine Below.drew ?_) | (with_reducible refine below_drewN ?_ _) | (with_reducible refine Below.setCell ?_ ?_ _) | (with_reducible refine Below.alloc ?_ ?_ _) | (refine Below.trans ?_ (Below.mono (by with_reducible assumption) ?_)) | omega | (exact Below.size (by with_reducible assumption)) | (simp; done) | (simp; omega)))
    have HC2 := Lib.hid (rdC_gro G0 G1 G2 (by have := HC.out.h0; omega) (by have := HC.out.h1; omega) (by have := HC.out.h2; omega) HC.out.wt)
    clear s0 hb2 hB1 l0 k0 f0 G0 G1 G2
    have lb := p0.lt
    have o7 := Own.new' (w := w2) (b := w2.heap.size) #[.slice X0 n0 x0, .slice X1 n1 x1, .slice X2 n2 x2, .int .i64 cw] 26 rfl rfl
    have s0 := p0.alloc (.cells #[.slice X0 n0 x0, .slice X1 n1 x1, .slice X2 n2 x2, .int .i64 cw] 26)
    have hB3 : Below w.heap.size w (w2.alloc (.cells #[.slice X0 n0 x0, .slice X1 n1 x1, .slice X2 n2 x2, .int .i64 cw] 26)) := by (repeat' (first | (with_reducible exact Below.refl _ _) | (with_reducible assumption) | (with_reducible refine Below.drew ?_) | (with_reducible refine below_drewN ?_ _) | (with_reducible refine Below.setCell ?_ ?_ _) | (with_reducible refine Below.alloc ?_ ?_ _) | (refine Below.trans ?_ (Below.mono (by with_reducible assumption) ?_)) | omega | (exact Below.size (by with_reducible assumption)) | (simp; done) | (simp; omega)))
    have HC' := Lib.hid (HC2.out.below ((Below.refl w2.heap.size w2).alloc (Nat.le_refl _) (.cells #[.slice X0 n0 x0, .slice X1 n1 x1, .slice X2 n2 x2, .int .i64 cw] 26)) (Nat.le_refl _))
    obtain ⟨l0, k0, f0⟩ := s0
    have s0 := Own.mk l0 k0 f0
    obtain ⟨l7, k7, f7⟩ := o7
    have o7 := Own.mk l7 k7 f7
    obtain ⟨N1, hN1⟩ : ∃ x, fewN cw B D R = x := ⟨_, rfl⟩
    have HN1 := Lib.hid hN1
    clear hN1
    obtain ⟨E1, hE1⟩ : ∃ x, fewE cw B D R = x := ⟨_, rfl⟩
    have HE1 := Lib.hid hE1
    clear hE1
    obtain ⟨N2, hN2⟩ : ∃ x, manyN cw B D R = x := ⟨_, rfl⟩
    have HN2 := Lib.hid hN2
    clear hN2
    obtain ⟨E2, hE2⟩ : ∃ x, opE cw B D R true = x := ⟨_, rfl⟩
    have HE2 := Lib.hid hE2
    clear hE2
    have HGL := Lib.hid (opgL_len60 (R := R) (cw := cw) (B := B) (D := D) d)
    obtain ⟨gs, hgs⟩ : ∃ x, opgL cw B D R d = x := ⟨_, rfl⟩
    rw [hgs] at HGL
    have HGS := Lib.hid hgs
    clear hgs
    obtain ⟨E3, hE3⟩ : ∃ x, opE cw B D R (isDv D d) = x := ⟨_, rfl⟩
    have HE3 := Lib.hid hE3
    clear hE3
    go_wp2_with fail
    refine (fewest33 X0 X1 X2 n0 n1 n2 x0 x1 x2 cw B D R _ HC'.out).mono ?_
    rw [HN1.out, HE1.out]
    rintro e w4 ⟨rfl, hb4⟩
    (clear l0 k0 f0 l7 k7 f7; replace s0 := s0.below hb4 s0.lt; replace o7 := o7.below hb4 o7.lt; have hB4 := hB3.trans (hb4.mono hB3.size); replace HC' := Lib.hid (HC'.out.below hb4 (Nat.le_refl _)); clear hb4 hB3; obtain ⟨l0, k0, f0⟩ := s0; have s0 := Own.mk l0 k0 f0; obtain ⟨l7, k7, f7⟩ := o7; have o7 := Own.mk l7 k7 f7)
    go_wp2_with fail
    refine (fewest36 A0 A1 A2 n0 n1 n2 c0 c1 c2 cw B D R _ (HC.out.below hB4 (Nat.le_refl _))).mono ?_
    rw [HN1.out, HE1.out]
    rintro e w5 ⟨rfl, hb5⟩
    (clear l0 k0 f0 l7 k7 f7; replace s0 := s0.below hb5 s0.lt; replace o7 := o7.below hb5 o7.lt; have hB5 := hB4.trans (hb5.mono hB4.size); replace HC' := Lib.hid (HC'.out.below hb5 (Nat.le_refl _)); clear hb5 hB4; obtain ⟨l0, k0, f0⟩ := s0; have s0 := Own.mk l0 k0 f0; obtain ⟨l7, k7, f7⟩ := o7; have o7 := Own.mk l7 k7 f7)
    go_wp2_with fail
    refine (many34 X0 X1 X2 n0 n1 n2 x0 x1 x2 cw B D R _ HC'.out).mono ?_
    rw [HN2.out, HE2.out]
    rintro e w6 ⟨rfl, hb6⟩
    (clear l0 k0 f0 l7 k7 f7; replace s0 := s0.below hb6 s0.lt; replace o7 := o7.below hb6 o7.lt; have hB6 := hB5.trans (hb6.mono hB5.size); replace HC' := Lib.hid (HC'.out.below hb6 (Nat.le_refl _)); clear hb6 hB5; obtain ⟨l0, k0, f0⟩ := s0; have s0 := Own.mk l0 k0 f0; obtain ⟨l7, k7, f7⟩ := o7; have o7 := Own.mk l7 k7 f7)
    go_wp2_with fail
    refine (many37 A0 A1 A2 n0 n1 n2 c0 c1 c2 cw B D R _ (HC.out.below hB6 (Nat.le_refl _))).mono ?_
    rw [HN2.out, HE2.out]
    rintro e w7 ⟨rfl, hb7⟩
    (clear l0 k0 f0 l7 k7 f7; replace s0 := s0.below hb7 s0.lt; replace o7 := o7.below hb7 o7.lt; have hB7 := hB6.trans (hb7.mono hB6.size); replace HC' := Lib.hid (HC'.out.below hb7 (Nat.le_refl _)); clear hb7 hB6; obtain ⟨l0, k0, f0⟩ := s0; have s0 := Own.mk l0 k0 f0; obtain ⟨l7, k7, f7⟩ := o7; have o7 := Own.mk l7 k7 f7)
    go_wp2_with fail
    refine (openings28 X0 X1 X2 n0 n1 n2 x0 x1 x2 cw d B D R _ HC'.out).mono ?_
    rw [HGS.out, HE3.out]
    rintro e w8 ⟨A8, c8, rfl, hr8, hb8⟩
    have HR8 := Lib.hid hr8
    clear hr8
    (clear l0 k0 f0 l7 k7 f7; replace s0 := s0.below hb8 s0.lt; replace o7 := o7.below hb8 o7.lt; have hB8 := hB7.trans (hb8.mono hB7.size); replace HC' := Lib.hid (HC'.out.below hb8 (Nat.le_refl _)); clear hb8 hB7; obtain ⟨l0, k0, f0⟩ := s0; have s0 := Own.mk l0 k0 f0; obtain ⟨l7, k7, f7⟩ := o7; have o7 := Own.mk l7 k7 f7)
    go_wp2_with fail
    refine (openings38 A0 A1 A2 n0 n1 n2 c0 c1 c2 cw d B D R _ (HC.out.below hB8 (Nat.le_refl _))).mono ?_
    rw [HGS.out, HE3.out]
    rintro e w9 ⟨A9, c9, rfl, hr9, hb9⟩
    replace HR8 := Lib.hid (HR8.out.below hb9 (Nat.le_refl _))
    have HR9 := Lib.hid hr9
    clear hr9
    (clear l0 k0 f0 l7 k7 f7; replace s0 := s0.below hb9 s0.lt; replace o7 := o7.below hb9 o7.lt; have hB9 := hB8.trans (hb9.mono hB8.size); replace HC' := Lib.hid (HC'.out.below hb9 (Nat.le_refl _)); clear hb9 hB8; obtain ⟨l0, k0, f0⟩ := s0; have s0 := Own.mk l0 k0 f0; obtain ⟨l7, k7, f7⟩ := o7; have o7 := Own.mk l7 k7 f7)
    have hgl : gs.length ≤ 140737488355328 := by have := HGL.out; omega
    go_wp2_with fail
    refine (cbB (show decide (gs = gs) = true by simp) (sameInts31 A8 A9 gs.length gs.length c8 c9 gs gs _ HR8.out HR9.out rfl rfl hgl hgl)).mono ?_
    rintro e w10 ⟨rfl, hb10⟩
    (clear l0 k0 f0 l7 k7 f7; replace s0 := s0.below hb10 s0.lt; replace o7 := o7.below hb10 o7.lt; have hB10 := hB9.trans (hb10.mono hB9.size); replace HC' := Lib.hid (HC'.out.below hb10 (Nat.le_refl _)); clear hb10 hB9; obtain ⟨l0, k0, f0⟩ := s0; have s0 := Own.mk l0 k0 f0; obtain ⟨l7, k7, f7⟩ := o7; have o7 := Own.mk l7 k7 f7)
    go_wp2_with fail
    refine (same39 X0 X1 X2 x0 x1 x2 A0 A1 A2 n0 n1 n2 c0 c1 c2 cw B D R _ HC'.out (HC.out.below hB10 (Nat.le_refl _))).mono ?_
    rintro e w11 ⟨rfl, hb11⟩
    (clear l0 k0 f0 l7 k7 f7; replace s0 := s0.below hb11 s0.lt; replace o7 := o7.below hb11 o7.lt; have hB11 := hB10.trans (hb11.mono hB10.size); replace HC' := Lib.hid (HC'.out.below hb11 (Nat.le_refl _)); clear hb11 hB10; obtain ⟨l0, k0, f0⟩ := s0; have s0 := Own.mk l0 k0 f0; obtain ⟨l7, k7, f7⟩ := o7; have o7 := Own.mk l7 k7 f7)
    (go_wp2_with fail; refine (works21 _ (HT.out.below hB11 (Nat.le_refl _))).mono ?_; rintro e w9 ⟨rfl, hb9⟩; go_wp2; go_ret; exact ⟨rfl, by (repeat' (first | (with_reducible exact Below.refl _ _) | (with_reducible assumption) | (with_reducible refine Below.drew ?_) | (with_reducible refine below_drewN ?_ _) | (with_reducible refine Below.setCell ?_ ?_ _) | (with_reducible refine Below.alloc ?_ ?_ _) | (refine Below.trans ?_ (Below.mono (by with_reducible assumption) ?_)) | omega | (exact Below.size (by with_reducible assumption)) | (simp; done) | (simp; omega)))⟩)
  · clear hfar
    (go_wp2_with fail; refine (works21 _ (HT.out.below hB1 (Nat.le_refl _))).mono ?_; rintro e w9 ⟨rfl, hb9⟩; go_wp2; go_ret; exact ⟨rfl, by (repeat' (first | (with_reducible exact Below.refl _ _) | (with_reducible assumption) | (with_reducible refine Below.drew ?_) | (with_reducible refine below_drewN ?_ _) | (with_reducible refine Below.setCell ?_ ?_ _) | (with_reducible refine Below.alloc ?_ ?_ _) | (refine Below.trans ?_ (Below.mono (by with_reducible assumption) ?_)) | omega | (exact Below.size (by with_reducible assumption)) | (simp; done) | (simp; omega)))⟩)

end Go.Proofs.YtibkgnnpmidgfaaDoor
