/- Walks: CoastsLonger of the program. -/
import Derived.Test.YtibkgnnpmidgfaaDoorFb
import Derived.Test.YtibkgnnpmidgfaaDoorEc
import Derived.Test.YtibkgnnpmidgfaaDoorCs
namespace Go.Proofs.YtibkgnnpmidgfaaDoor
open Go.RowKit

theorem strL_len {cw : Int} {B D : List Pt} {R : List Rep} : (strL cw B D R).length ≤ 8 := by
  unfold strL
  split
  · rename_i h
    have := (val_of (opE_true h).2).r
    exact Nat.le_trans (pickN_len _ _) this
  · simp

set_option maxRecDepth 100000 in
set_option maxHeartbeats 8000000 in
theorem longer9 (A0 A1 A2 : Option Addr) (n0 n1 n2 c0 c1 c2 : Nat) (cw : Int) (a b : Int) (B D : List Pt) (R : List Rep) (w : World) (hC : RdC w A0 A1 A2 n0 n1 n2 B D R) (hT : Tab w) :
    Calls Tryd.prog 9 #[.agg #[.slice A0 n0 c0, .slice A1 n1 c1, .slice A2 n2 c2, .int .i64 cw], .int .i64 a, .int .i64 b] w fun e w' => e = .returned (.bool true) ∧ Below w.heap.size w w' := by
  have HC := Lib.hid hC
  have HT := Lib.hid hT
  clear hC hT
  have o0 : Own (w.alloc (.cells #[.slice A0 n0 c0, .slice A1 n1 c1, .slice A2 n2 c2, .int .i64 cw] 26)) w.heap.size [.slice A0 n0 c0, .slice A1 n1 c1, .slice A2 n2 c2, .int .i64 cw] := Own.new' _ _ rfl rfl
  have oB : Below w.heap.size w (w.alloc (.cells #[.slice A0 n0 c0, .slice A1 n1 c1, .slice A2 n2 c2, .int .i64 cw] 26)) := by (repeat' (first | (with_reducible exact Below.refl _ _) | (with_reducible assumption) | (with_reducible refine Below.drew ?_) | (with_reducible refine below_drewN ?_ _) | (with_reducible refine Below.setCell ?_ ?_ _) | (with_reducible refine Below.alloc ?_ ?_ _) | (refine Below.trans ?_ (Below.mono (by with_reducible assumption) ?_)) | omega | (exact Below.size (by with_reducible assumption)) | (simp; done) | (simp; omega)))
  go_enter Tryd.func9, Tryd.ntmps9
  go_wp2_with fail
  refine (far13L A0 A1 A2 n0 n1 n2 c0 c1 c2 cw B D R _ (HC.out.below oB (Nat.le_refl _))).mono ?_
  rintro e w1 ⟨⟨b, rfl, hfar⟩, hb1⟩
  have s0 := o0.below hb1 o0.lt
  have hB1 : Below w.heap.size w w1 := by (repeat' (first | (with_reducible exact Below.refl _ _) | (with_reducible assumption) | (with_reducible refine Below.drew ?_) | (with_reducible refine below_drewN ?_ _) | (with_reducible refine Below.setCell ?_ ?_ _) | (with_reducible refine Below.alloc ?_ ?_ _) | (refine Below.trans ?_ (Below.mono (by with_reducible assumption) ?_)) | omega | (exact Below.size (by with_reducible assumption)) | (simp; done) | (simp; omega)))
  obtain ⟨l0, k0, f0⟩ := s0
  have s0 := Own.mk l0 k0 f0
  clear o0 oB hb1
  cases b
  · obtain ⟨m0, m1, m2⟩ := hfar rfl
    clear hfar
    go_wp2_with fail
    refine (copy27x A0 A1 A2 n0 n1 n2 c0 c1 c2 cw B D R _ (HC.out.below hB1 (Nat.le_refl _)) (by omega) (by omega) (by omega)).mono ?_
    rintro e w2 ⟨X0, X1, X2, x0, x1, x2, rfl, G0, G1, G2, hb2⟩
    have p0 := s0.below hb2 s0.lt
    have hB2 : Below w.heap.size w w2 := by (repeat' (first | (with_reducible exact Below.refl _ _) | (with_reducible assumption) | (with_reducible refine Below.drew ?_) | (with_reducible refine below_drewN ?_ _) | (with_reducible refine Below.setCell ?_ ?_ _) | (with_reducible refine Below.alloc ?_ ?_ _) | (refine Below.trans ?_ (Below.mono (by with_reducible assumption) ?_)) | omega | (exact Below.size (by with_reducible assumption)) | (simp; done) | (simp; omega)))
    have HC2 := Lib.hid (rdC_gro G0 G1 G2 (by have := HC.out.h0; omega) (by have := HC.out.h1; omega) (by have := HC.out.h2; omega) HC.out.wt)
    clear s0 hb2 hB1 l0 k0 f0 G0 G1 G2
    have lb := p0.lt
    have o7 := Own.new' (w := w2) (b := w2.heap.size) #[.slice X0 n0 x0, .slice X1 n1 x1, .slice X2 n2 x2, .int .i64 cw] 26 rfl rfl
    have s0 := p0.alloc (.cells #[.slice X0 n0 x0, .slice X1 n1 x1, .slice X2 n2 x2, .int .i64 cw] 26)
    have hB3 : Below w.heap.size w (w2.alloc (.cells #[.slice X0 n0 x0, .slice X1 n1 x1, .slice X2 n2 x2, .int .i64 cw] 26)) := by (repeat' (first | (with_reducible exact Below.refl _ _) | (with_reducible assumption) | (with_reducible refine Below.drew ?_) | (with_reducible refine below_drewN ?_ _) | (with_reducible refine Below.setCell ?_ ?_ _) | (with_reducible refine Below.alloc ?_ ?_ _) | (refine Below.trans ?_ (Below.mono (by with_reducible assumption) ?_)) | omega | (exact Below.size (by with_reducible assumption)) | (simp; done) | (simp; omega)))
    have HC' := Lib.hid (HC2.out.below ((Below.refl w2.heap.size w2).alloc (Nat.le_refl _) (.cells #[.slice X0 n0 x0, .slice X1 n1 x1, .slice X2 n2 x2, .int .i64 cw] 26)) (Nat.le_refl _))
    obtain ⟨l0, k0, f0⟩ := s0
    have s0 := Own.mk l0 k0 f0
    obtain ⟨l7, k7, f7⟩ := o7
    have o7 := Own.mk l7 k7 f7
    have HGL := Lib.hid (strL_len (cw := cw) (B := B) (D := D) (R := R))
    obtain ⟨gs, hgs⟩ : ∃ x, strL cw B D R = x := ⟨_, rfl⟩
    rw [hgs] at HGL
    have HGS := Lib.hid hgs
    clear hgs
    obtain ⟨E1, hE1⟩ : ∃ x, opE cw B D R true = x := ⟨_, rfl⟩
    have HE1 := Lib.hid hE1
    clear hE1
    obtain ⟨N2, hN2⟩ : ∃ x, lonN cw B D R a b = x := ⟨_, rfl⟩
    have HN2 := Lib.hid hN2
    clear hN2
    obtain ⟨E2, hE2⟩ : ∃ x, opE cw B D R (isDv2 D a b) = x := ⟨_, rfl⟩
    have HE2 := Lib.hid hE2
    clear hE2
    go_wp2_with fail
    refine (strange40 X0 X1 X2 n0 n1 n2 x0 x1 x2 cw B D R _ HC'.out).mono ?_
    rw [HGS.out, HE1.out]
    rintro e w4 ⟨A4, c4, rfl, hr4, hb4⟩
    have HR4 := Lib.hid hr4
    clear hr4
    (clear l0 k0 f0 l7 k7 f7; replace s0 := s0.below hb4 s0.lt; replace o7 := o7.below hb4 o7.lt; have hB4 := hB3.trans (hb4.mono hB3.size); replace HC' := Lib.hid (HC'.out.below hb4 (Nat.le_refl _)); clear hb4 hB3; obtain ⟨l0, k0, f0⟩ := s0; have s0 := Own.mk l0 k0 f0; obtain ⟨l7, k7, f7⟩ := o7; have o7 := Own.mk l7 k7 f7)
    go_wp2_with fail
    refine (strange41 A0 A1 A2 n0 n1 n2 c0 c1 c2 cw B D R _ (HC.out.below hB4 (Nat.le_refl _))).mono ?_
    rw [HGS.out, HE1.out]
    rintro e w5 ⟨A5, c5, rfl, hr5, hb5⟩
    replace HR4 := Lib.hid (HR4.out.below hb5 (Nat.le_refl _))
    have HR5 := Lib.hid hr5
    clear hr5
    (clear l0 k0 f0 l7 k7 f7; replace s0 := s0.below hb5 s0.lt; replace o7 := o7.below hb5 o7.lt; have hB5 := hB4.trans (hb5.mono hB4.size); replace HC' := Lib.hid (HC'.out.below hb5 (Nat.le_refl _)); clear hb5 hB4; obtain ⟨l0, k0, f0⟩ := s0; have s0 := Own.mk l0 k0 f0; obtain ⟨l7, k7, f7⟩ := o7; have o7 := Own.mk l7 k7 f7)
    go_wp2_with fail
    refine (longer29 X0 X1 X2 n0 n1 n2 x0 x1 x2 cw a b B D R _ HC'.out (HT.out.below hB5 (Nat.le_refl _))).mono ?_
    rw [HN2.out, HE2.out]
    rintro e w6 ⟨rfl, hb6⟩
    replace HR4 := Lib.hid (HR4.out.below hb6 (Nat.le_refl _))
    replace HR5 := Lib.hid (HR5.out.below hb6 (Nat.le_refl _))
    (clear l0 k0 f0 l7 k7 f7; replace s0 := s0.below hb6 s0.lt; replace o7 := o7.below hb6 o7.lt; have hB6 := hB5.trans (hb6.mono hB5.size); replace HC' := Lib.hid (HC'.out.below hb6 (Nat.le_refl _)); clear hb6 hB5; obtain ⟨l0, k0, f0⟩ := s0; have s0 := Own.mk l0 k0 f0; obtain ⟨l7, k7, f7⟩ := o7; have o7 := Own.mk l7 k7 f7)
    go_wp2_with fail
    refine (longer42 A0 A1 A2 n0 n1 n2 c0 c1 c2 cw a b B D R _ (HC.out.below hB6 (Nat.le_refl _))).mono ?_
    rw [HN2.out, HE2.out]
    rintro e w7 ⟨rfl, hb7⟩
    replace HR4 := Lib.hid (HR4.out.below hb7 (Nat.le_refl _))
    replace HR5 := Lib.hid (HR5.out.below hb7 (Nat.le_refl _))
    (clear l0 k0 f0 l7 k7 f7; replace s0 := s0.below hb7 s0.lt; replace o7 := o7.below hb7 o7.lt; have hB7 := hB6.trans (hb7.mono hB6.size); replace HC' := Lib.hid (HC'.out.below hb7 (Nat.le_refl _)); clear hb7 hB6; obtain ⟨l0, k0, f0⟩ := s0; have s0 := Own.mk l0 k0 f0; obtain ⟨l7, k7, f7⟩ := o7; have o7 := Own.mk l7 k7 f7)
    have hgl : gs.length ≤ 140737488355328 := by have := HGL.out; omega
    go_wp2_with fail
    refine (cbB (show decide (gs = gs) = true by simp) (sameInts31 A4 A5 gs.length gs.length c4 c5 gs gs _ HR4.out HR5.out rfl rfl hgl hgl)).mono ?_
    rintro e w8 ⟨rfl, hb8⟩
    (clear l0 k0 f0 l7 k7 f7; replace s0 := s0.below hb8 s0.lt; replace o7 := o7.below hb8 o7.lt; have hB8 := hB7.trans (hb8.mono hB7.size); replace HC' := Lib.hid (HC'.out.below hb8 (Nat.le_refl _)); clear hb8 hB7; obtain ⟨l0, k0, f0⟩ := s0; have s0 := Own.mk l0 k0 f0; obtain ⟨l7, k7, f7⟩ := o7; have o7 := Own.mk l7 k7 f7)
    go_wp2_with fail
    refine (same39 X0 X1 X2 x0 x1 x2 A0 A1 A2 n0 n1 n2 c0 c1 c2 cw B D R _ HC'.out (HC.out.below hB8 (Nat.le_refl _))).mono ?_
    rintro e w9 ⟨rfl, hb9⟩
    (clear l0 k0 f0 l7 k7 f7; replace s0 := s0.below hb9 s0.lt; replace o7 := o7.below hb9 o7.lt; have hB9 := hB8.trans (hb9.mono hB8.size); replace HC' := Lib.hid (HC'.out.below hb9 (Nat.le_refl _)); clear hb9 hB8; obtain ⟨l0, k0, f0⟩ := s0; have s0 := Own.mk l0 k0 f0; obtain ⟨l7, k7, f7⟩ := o7; have o7 := Own.mk l7 k7 f7)
    (go_wp2_with fail; refine (works21 _ (HT.out.below hB9 (Nat.le_refl _))).mono ?_; rintro e w9 ⟨rfl, hb9⟩; go_wp2; go_ret; exact ⟨rfl, by (repeat' (first | (with_reducible exact Below.refl _ _) | (with_reducible assumption) | (with_reducible refine Below.drew ?_) | (with_reducible refine below_drewN ?_ _) | (with_reducible refine Below.setCell ?_ ?_ _) | (with_reducible refine Below.alloc ?_ ?_ _) | (refine Below.trans ?_ (Below.mono (by with_reducible assumption) ?_)) | omega | (exact Below.size (by with_reducible assumption)) | (simp; done) | (simp; omega)))⟩)
  · clear hfar
    (go_wp2_with fail; refine (works21 _ (HT.out.below hB1 (Nat.le_refl _))).mono ?_; rintro e w9 ⟨rfl, hb9⟩; go_wp2; go_ret; exact ⟨rfl, by (repeat' (first | (with_reducible exact Below.refl _ _) | (with_reducible assumption) | (with_reducible refine Below.drew ?_) | (with_reducible refine below_drewN ?_ _) | (with_reducible refine Below.setCell ?_ ?_ _) | (with_reducible refine Below.alloc ?_ ?_ _) | (refine Below.trans ?_ (Below.mono (by with_reducible assumption) ?_)) | omega | (exact Below.size (by with_reducible assumption)) | (simp; done) | (simp; omega)))⟩)

end Go.Proofs.YtibkgnnpmidgfaaDoor
