/- Walks: CoastsWider of the program. -/
import Derived.Test.YtibkgnnpmidgfaaDoorDe
namespace Go.Proofs.YtibkgnnpmidgfaaDoor
open Go.RowKit Go.Maps

theorem cnt_zero {cw : Int} {B D : List Pt} {R : List Rep} {o f t : Int} (h : chkE cw B D R = 0) (ho : btw o 1 60 = true) (hp : plB B.length f t = true) :
    cntE cw B D R o f t = if mk B o f.toNat t.toNat = 0 then 3 else 0 := by
  have ha : askE cw B D R (askC B o f t) = 0 := by rw [ask_ok h, if_pos (by unfold askC; rw [ho, hp]; rfl)]
  unfold cntE
  rw [if_pos ha]

set_option maxRecDepth 100000 in
set_option maxHeartbeats 8000000 in
theorem wider4 (A0 A1 A2 : Option Addr) (n0 n1 n2 c0 c1 c2 : Nat) (cw : Int) (o f t m d : Int) (B D : List Pt) (R : List Rep) (w : World) (hC : RdC w A0 A1 A2 n0 n1 n2 B D R) (hT : Tab w) (ht : -9223372036854775808 ≤ t ∧ t ≤ 9223372036854775807) :
    Calls Tryd.prog 4 #[.agg #[.slice A0 n0 c0, .slice A1 n1 c1, .slice A2 n2 c2, .int .i64 cw], .agg #[.int .i64 o, .int .i64 f, .int .i64 t, .int .i64 m], .int .i64 d] w fun e w' => e = .returned (.bool true) ∧ Below w.heap.size w w' := by
  obtain ⟨i0, hi0, hi1, hi2, hi3⟩ := info_parts Tryd.info3
  have HC := Lib.hid hC
  have HT := Lib.hid hT
  have HL := Lib.hid hC.h0
  clear hC hT
  have o0 : Own ((w.alloc (.cells #[.slice A0 n0 c0, .slice A1 n1 c1, .slice A2 n2 c2, .int .i64 cw] 26)).alloc (.cells #[.int .i64 o, .int .i64 f, .int .i64 t, .int .i64 m] 44)) w.heap.size [.slice A0 n0 c0, .slice A1 n1 c1, .slice A2 n2 c2, .int .i64 cw] := (Own.new' _ _ rfl rfl).alloc _
  have o1 : Own ((w.alloc (.cells #[.slice A0 n0 c0, .slice A1 n1 c1, .slice A2 n2 c2, .int .i64 cw] 26)).alloc (.cells #[.int .i64 o, .int .i64 f, .int .i64 t, .int .i64 m] 44)) (w.heap.size + 1) [.int .i64 o, .int .i64 f, .int .i64 t, .int .i64 m] := Own.new' _ _ (by simp) rfl
  have oB : Below w.heap.size w ((w.alloc (.cells #[.slice A0 n0 c0, .slice A1 n1 c1, .slice A2 n2 c2, .int .i64 cw] 26)).alloc (.cells #[.int .i64 o, .int .i64 f, .int .i64 t, .int .i64 m] 44)) := by (repeat' (first | (with_reducible exact Below.refl _ _) | (with_reducible assumption) | (with_reducible refine Below.drew ?_) | (with_reducible refine below_drewN ?_ _) | (with_reducible refine Below.setCell ?_ ?_ _) | (with_reducible refine Below.alloc ?_ ?_ _) | (refine Below.trans ?_ (Below.mono (by with_reducible assumption) ?_)) | omega | (exact Below.size (by with_reducible assumption)) | (simp; done) | (simp; omega)))
  go_enter Tryd.func4, Tryd.ntmps4
  go_wp2_with fail
  refine (ready19 A0 A1 A2 n0 n1 n2 c0 c1 c2 cw B D R _ (HC.out.below oB (Nat.le_refl _))).mono ?_
  rintro e w1 ⟨b, rfl, hrdy, hb1⟩
  have q0 := o0.below hb1 o0.lt
  have q1 := o1.below hb1 o1.lt
  have hB1 : Below w.heap.size w w1 := by (repeat' (first | (with_reducible exact Below.refl _ _) | (with_reducible assumption) | (with_reducible refine Below.drew ?_) | (with_reducible refine below_drewN ?_ _) | (with_reducible refine Below.setCell ?_ ?_ _) | (with_reducible refine Below.alloc ?_ ?_ _) | (refine Below.trans ?_ (Below.mono (by with_reducible assumption) ?_)) | omega | (exact Below.size (by with_reducible assumption)) | (simp; done) | (simp; omega)))
  obtain ⟨l0, k0, f0⟩ := q0
  have q0 := Own.mk l0 k0 f0
  obtain ⟨l1, k1, f1⟩ := q1
  have q1 := Own.mk l1 k1 f1
  clear o0 o1 oB hb1
  cases b
  · (go_wp2_with fail; refine (works21 _ (HT.out.below hB1 (Nat.le_refl _))).mono ?_; rintro e w9 ⟨rfl, hb9⟩; go_wp2; go_ret; exact ⟨rfl, by (repeat' (first | (with_reducible exact Below.refl _ _) | (with_reducible assumption) | (with_reducible refine Below.drew ?_) | (with_reducible refine below_drewN ?_ _) | (with_reducible refine Below.setCell ?_ ?_ _) | (with_reducible refine Below.alloc ?_ ?_ _) | (refine Below.trans ?_ (Below.mono (by with_reducible assumption) ?_)) | omega | (exact Below.size (by with_reducible assumption)) | (simp; done) | (simp; omega)))⟩)
  · have H := Lib.hid (hrdy rfl)
    clear hrdy
    cases hop : btw o 1 60
    · have HO := Lib.hid hop
      clear hop
      go_wp2_with (first | (go_at_call 20; refine (cbP HO.out (isOpening20 _ _)).mono ?_; rintro e w2 ⟨rfl, rfl⟩) | fail)
      (go_wp2_with fail; refine (works21 _ (HT.out.below hB1 (Nat.le_refl _))).mono ?_; rintro e w9 ⟨rfl, hb9⟩; go_wp2; go_ret; exact ⟨rfl, by (repeat' (first | (with_reducible exact Below.refl _ _) | (with_reducible assumption) | (with_reducible refine Below.drew ?_) | (with_reducible refine below_drewN ?_ _) | (with_reducible refine Below.setCell ?_ ?_ _) | (with_reducible refine Below.alloc ?_ ?_ _) | (refine Below.trans ?_ (Below.mono (by with_reducible assumption) ?_)) | omega | (exact Below.size (by with_reducible assumption)) | (simp; done) | (simp; omega)))⟩)
    · have HO := Lib.hid hop
      have hob := btw_iff.1 hop
      go_wp2_with (first | (go_at_call 20; refine (cbP HO.out (isOpening20 _ _)).mono ?_; rintro e w2 ⟨rfl, rfl⟩) | fail)
      refine (areBends15 _ _ _ _ _ _ _ _ _ _ _ _ _).mono ?_
      cases hp1 : plB n0 f t
      · rintro e w2 ⟨rfl, hb2⟩
        have hB2 : Below w.heap.size w w2 := by (repeat' (first | (with_reducible exact Below.refl _ _) | (with_reducible assumption) | (with_reducible refine Below.drew ?_) | (with_reducible refine below_drewN ?_ _) | (with_reducible refine Below.setCell ?_ ?_ _) | (with_reducible refine Below.alloc ?_ ?_ _) | (refine Below.trans ?_ (Below.mono (by with_reducible assumption) ?_)) | omega | (exact Below.size (by with_reducible assumption)) | (simp; done) | (simp; omega)))
        clear hop hp1 hb2
        (go_wp2_with fail; refine (works21 _ (HT.out.below hB2 (Nat.le_refl _))).mono ?_; rintro e w9 ⟨rfl, hb9⟩; go_wp2; go_ret; exact ⟨rfl, by (repeat' (first | (with_reducible exact Below.refl _ _) | (with_reducible assumption) | (with_reducible refine Below.drew ?_) | (with_reducible refine below_drewN ?_ _) | (with_reducible refine Below.setCell ?_ ?_ _) | (with_reducible refine Below.alloc ?_ ?_ _) | (refine Below.trans ?_ (Below.mono (by with_reducible assumption) ?_)) | omega | (exact Below.size (by with_reducible assumption)) | (simp; done) | (simp; omega)))⟩)
      · rintro e w2 ⟨rfl, hb2⟩
        have HP1 := Lib.hid hp1
        have q2 := q0.below hb2 q0.lt
        have r2 := q1.below hb2 q1.lt
        have hB2 : Below w.heap.size w w2 := by (repeat' (first | (with_reducible exact Below.refl _ _) | (with_reducible assumption) | (with_reducible refine Below.drew ?_) | (with_reducible refine below_drewN ?_ _) | (with_reducible refine Below.setCell ?_ ?_ _) | (with_reducible refine Below.alloc ?_ ?_ _) | (refine Below.trans ?_ (Below.mono (by with_reducible assumption) ?_)) | omega | (exact Below.size (by with_reducible assumption)) | (simp; done) | (simp; omega)))
        clear hop hp1 hb2 q0 q1 l0 l1 k0 k1 f0 f1
        obtain ⟨l0, k0, f0⟩ := q2
        have q0 := Own.mk l0 k0 f0
        obtain ⟨l1, k1, f1⟩ := r2
        have q1 := Own.mk l1 k1 f1
        by_cases hd0 : d < 0
        · (go_wp2_with fail; refine (works21 _ (HT.out.below hB2 (Nat.le_refl _))).mono ?_; rintro e w9 ⟨rfl, hb9⟩; go_wp2; go_ret; exact ⟨rfl, by (repeat' (first | (with_reducible exact Below.refl _ _) | (with_reducible assumption) | (with_reducible refine Below.drew ?_) | (with_reducible refine below_drewN ?_ _) | (with_reducible refine Below.setCell ?_ ?_ _) | (with_reducible refine Below.alloc ?_ ?_ _) | (refine Below.trans ?_ (Below.mono (by with_reducible assumption) ?_)) | omega | (exact Below.size (by with_reducible assumption)) | (simp; done) | (simp; omega)))⟩)
        · by_cases hd1 : 60 < d
          · (go_wp2_with fail; refine (works21 _ (HT.out.below hB2 (Nat.le_refl _))).mono ?_; rintro e w9 ⟨rfl, hb9⟩; go_wp2; go_ret; exact ⟨rfl, by (repeat' (first | (with_reducible exact Below.refl _ _) | (with_reducible assumption) | (with_reducible refine Below.drew ?_) | (with_reducible refine below_drewN ?_ _) | (with_reducible refine Below.setCell ?_ ?_ _) | (with_reducible refine Below.alloc ?_ ?_ _) | (refine Below.trans ?_ (Below.mono (by with_reducible assumption) ?_)) | omega | (exact Below.size (by with_reducible assumption)) | (simp; done) | (simp; omega)))⟩)
          · cases hop2 : btw (o + d) 1 60
            · have HO2 := Lib.hid hop2
              clear hop2
              go_wp2_with (first | (go_at_call 20; refine (cbP HO2.out (isOpening20 _ _)).mono ?_; rintro e w2' ⟨rfl, rfl⟩) | fail)
              (go_wp2_with fail; refine (works21 _ (HT.out.below hB2 (Nat.le_refl _))).mono ?_; rintro e w9 ⟨rfl, hb9⟩; go_wp2; go_ret; exact ⟨rfl, by (repeat' (first | (with_reducible exact Below.refl _ _) | (with_reducible assumption) | (with_reducible refine Below.drew ?_) | (with_reducible refine below_drewN ?_ _) | (with_reducible refine Below.setCell ?_ ?_ _) | (with_reducible refine Below.alloc ?_ ?_ _) | (refine Below.trans ?_ (Below.mono (by with_reducible assumption) ?_)) | omega | (exact Below.size (by with_reducible assumption)) | (simp; done) | (simp; omega)))⟩)
            · have HO2 := Lib.hid hop2
              have hob2 := btw_iff.1 hop2
              have hpp1 := plB_iff.1 HP1.out
              have c1 := (cnt_ok (cw := cw) (D := D) (R := R) H.out HO.out (by rw [← HL.out]; exact HP1.out)).1
              have c2 := (cnt_ok (cw := cw) (D := D) (R := R) H.out HO2.out (by rw [← HL.out]; exact HP1.out)).1
              have z1 := cnt_zero (cw := cw) (D := D) (R := R) H.out HO.out (by rw [← HL.out]; exact HP1.out)
              have z2 := cnt_zero (cw := cw) (D := D) (R := R) H.out HO2.out (by rw [← HL.out]; exact HP1.out)
              have hV := Lib.hid (val_of (chk_ok H.out))
              have hn : n0 ≤ 12 := by have := hV.out.b2; have := HL.out; omega
              obtain ⟨f, rfl⟩ := Int.eq_ofNat_of_zero_le hpp1.1
              obtain ⟨t, rfl⟩ := Int.eq_ofNat_of_zero_le (show 0 ≤ t by omega)
              simp only [Int.toNat_natCast] at c1 c2 z1 z2
              have hft : f < t := by omega
              have htn : t < n0 := by omega
              have ht12 : t < 12 := by omega
              clear hop2
              obtain ⟨e1, he1⟩ : ∃ e, cntE cw B D R o f t = e := ⟨_, rfl⟩
              obtain ⟨e2, he2⟩ : ∃ e, cntE cw B D R (o + d) f t = e := ⟨_, rfl⟩
              obtain ⟨xs, hxs⟩ : ∃ xs, bitsL (mk B o f t) = xs := ⟨_, rfl⟩
              obtain ⟨ys, hys⟩ : ∃ xs, bitsL (mk B (o + d) f t) = xs := ⟨_, rfl⟩
              have hxl : xs.length ≤ 13 := hxs ▸ bitsL_len _
              have hyl : ys.length ≤ 13 := hys ▸ bitsL_len _
              rw [hxs] at c1
              rw [hys] at c2
              rw [he1] at z1
              rw [he2] at z2
              have C1 := Lib.hid (And.intro c1 he1)
              have C2 := Lib.hid (And.intro c2 he2)
              have Z1 := Lib.hid z1
              have Z2 := Lib.hid z2
              have XS := Lib.hid hxs
              have YS := Lib.hid hys
              clear c1 c2 z1 z2 he1 he2 hxs hys hpp1
              go_wp2_with (first | (go_at_call 20; refine (cbP HO2.out (isOpening20 _ _)).mono ?_; rintro e w2' ⟨rfl, rfl⟩) | fail)
              refine (counts22 A0 A1 A2 n0 n1 n2 c0 c1 c2 cw o f t B D R _ (HC.out.below hB2 (Nat.le_refl _)) (by omega) (by omega)).mono ?_
              rw [C1.out.1, C1.out.2]
              rintro e w4 ⟨A4, cap4, rfl, hr4, hb4⟩
              have hB4 : Below w.heap.size w w4 := by (repeat' (first | (with_reducible exact Below.refl _ _) | (with_reducible assumption) | (with_reducible refine Below.drew ?_) | (with_reducible refine below_drewN ?_ _) | (with_reducible refine Below.setCell ?_ ?_ _) | (with_reducible refine Below.alloc ?_ ?_ _) | (refine Below.trans ?_ (Below.mono (by with_reducible assumption) ?_)) | omega | (exact Below.size (by with_reducible assumption)) | (simp; done) | (simp; omega)))
              have q4 := q0.below hb4 q0.lt
              have r4 := q1.below hb4 q1.lt
              clear q0 q1 l0 l1 k0 k1 f0 f1 hB2 hb4
              obtain ⟨l0, k0, f0⟩ := q4
              have q0 := Own.mk l0 k0 f0
              obtain ⟨l1, k1, f1⟩ := r4
              have q1 := Own.mk l1 k1 f1
              have HR4 := Lib.hid hr4
              clear hr4
              go_wp2_with fail
              refine (counts22 A0 A1 A2 n0 n1 n2 c0 c1 c2 cw (o + d) f t B D R _ (HC.out.below hB4 (Nat.le_refl _)) (by omega) (by omega)).mono ?_
              rw [C2.out.1, C2.out.2]
              rintro e w5 ⟨A5, cap5, rfl, hr5, hb5⟩
              have hB5 : Below w.heap.size w w5 := by (repeat' (first | (with_reducible exact Below.refl _ _) | (with_reducible assumption) | (with_reducible refine Below.drew ?_) | (with_reducible refine below_drewN ?_ _) | (with_reducible refine Below.setCell ?_ ?_ _) | (with_reducible refine Below.alloc ?_ ?_ _) | (refine Below.trans ?_ (Below.mono (by with_reducible assumption) ?_)) | omega | (exact Below.size (by with_reducible assumption)) | (simp; done) | (simp; omega)))
              have q5 := q0.below hb5 q0.lt
              have r5 := q1.below hb5 q1.lt
              have HR4b := Lib.hid (HR4.out.below hb5 (Nat.le_refl _))
              clear q0 q1 l0 l1 k0 k1 f0 f1 hB4 hb5 HR4
              obtain ⟨l0, k0, f0⟩ := q5
              have q0 := Own.mk l0 k0 f0
              obtain ⟨l1, k1, f1⟩ := r5
              have q1 := Own.mk l1 k1 f1
              have HR5 := Lib.hid hr5
              clear hr5
              by_cases hz : mk B o f t = 0
              · have h1 : e1 = 3 := by have := Z1.out; rwa [if_pos hz] at this
                have h2 : e2 = 0 ∨ e2 = 3 := by have := Z2.out; rw [this]; split <;> simp
                subst h1
                have HZ := Lib.hid hz
                have HKN := Lib.hid (fun s : Aft w5 => isKnown23 3 s.w (Or.inr rfl))
                have HKN2 := Lib.hid (fun s : Aft w5 => isKnown23 e2 s.w h2)
                clear hz h2
                go_wp2
                have hd3 : decide (40 < (xs.length : Int)) = false := by simp; omega
                have hd4 : decide (40 < (ys.length : Int)) = false := by simp; omega
                refine wp_region_aft (by kernel_rfl) (by kernel_rfl) ?_; (repeat (go_big_quiet_step ((first | (go_at_call 23; exact aft_same (HKN.out _)) | (go_at_call 23; exact aft_same (HKN2.out _)))))); refine wpQuiet_nil ?_; rintro w7 ⟨⟨_, hb7⟩, rfl⟩
                have hB7 : Below w.heap.size w w7 := by (repeat' (first | (with_reducible exact Below.refl _ _) | (with_reducible assumption) | (with_reducible refine Below.drew ?_) | (with_reducible refine below_drewN ?_ _) | (with_reducible refine Below.setCell ?_ ?_ _) | (with_reducible refine Below.alloc ?_ ?_ _) | (refine Below.trans ?_ (Below.mono (by with_reducible assumption) ?_)) | omega | (exact Below.size (by with_reducible assumption)) | (simp; done) | (simp; omega)))
                have q7 := q0.below hb7 q0.lt
                have r7 := q1.below hb7 q1.lt
                have HR7 := Lib.hid (HR4b.out.below hb7 (Nat.le_refl _))
                clear q0 q1 l0 l1 k0 k1 f0 f1 hB5 hb7 HR4b HR5 HKN HKN2 hd3 hd4
                obtain ⟨l0, k0, f0⟩ := q7
                have q0 := Own.mk l0 k0 f0
                obtain ⟨l1, k1, f1⟩ := r7
                have q1 := Own.mk l1 k1 f1
                go_wp2
                go_loopg [11, 12] (t - f + 1) (fun K v y wr => ∃ j : Nat, K + j = t - f + 1 ∧ y = .int .i64 ((f + j : Nat) : Int) ∧ Gro wr w7.heap.size 3 1 v ((natI (runW f j)).map irow) ∧ Own wr w.heap.size [.slice A0 n0 c0, .slice A1 n1 c1, .slice A2 n2 c2, .int .i64 cw] ∧ Own wr (w.heap.size + 1) [.int .i64 o, .int .i64 f, .int .i64 t, .int .i64 m] ∧ Below w.heap.size w wr ∧ Below w7.heap.size w7 wr)
                case atStart => exact ⟨0, by omega, rfl, Gro.nil _ _ _ _, q0, q1, hB7, Below.refl _ _⟩
                case round =>
                  clear q0 q1 k0 k1 f0 f1
                  obtain ⟨j, hj, rfl, hg, q0, q1, hbw, hbv⟩ := hrel
                  have p0 := q0
                  have p1 := q1
                  obtain ⟨_, k0, f0⟩ := p0
                  obtain ⟨_, k1, f1⟩ := p1
                  have hz7 : w7.heap.size ≤ wr.heap.size := hbv.size
                  by_cases hlt : f + j ≤ t
                  · have hll : ((natI (runW f j)).map irow).length = j := by rw [List.length_map]; unfold natI; rw [List.length_map, runW_len]
                    go_wp2_with (at_builtin; go_must (refine wpList_append_own _ rfl _ _ 46 rfl w7.heap.size 3 i0 (.int .i64 0) 1 8 Tryd.underlying46 hi0 hi1 hi2 hi3 rfl (by decide) _ _ _ rfl (hg.2.alloc _) ⟨wr.heap.size, 0, none⟩ 1 1 [.int .i64 ((f + j : Nat) : Int)] rfl rfl (cell_one_new _ _ _) (by intro u hu; simp at hu; subst hu; rfl) (by unfold maxLen; omega) (by omega) (by simp; omega) ?_; intro v' w8 hown' hgrow hnil; have hbA : Below w7.heap.size wr w8 := ((Below.refl _ wr).alloc hz7 _).grown hgrow (by simp; omega) (fun i hi => (hg.2.lt i hi).1); have hg8 : Gro w8 w7.heap.size 3 1 v' ((natI (runW f j)).map irow ++ [irow ((f + j : Nat) : Int)]) := Gro.grown hg rfl hown'; clear hown' hgrow hnil))
                    go_roundg (t - f + 1 - (j + 1))
                    case measure => omega
                    case rel => exact ⟨j + 1, by omega, by go_num, (by rw [runW_succ]; unfold natI; rw [List.map_append, List.map_append]; exact hg8), q0.below hbA l0, q1.below hbA l1, hbw.trans (hbA.mono (by omega)), hbv.trans hbA⟩
                  · have hj' : j = t - f + 1 := by omega
                    subst hj'
                    have hll : ((natI (runW f (t - f + 1))).map irow).length = t - f + 1 := by rw [List.length_map]; unfold natI; rw [List.length_map, runW_len]
                    obtain ⟨A8, cap8, rfl, hrd⟩ := hg.out
                    have HRD := Lib.hid hrd
                    clear hg hrd
                    go_wp2_with fail
                    refine (isWalk25 A0 A1 A2 n0 n1 n2 c0 c1 c2 cw A8 _ cap8 o f t (runW f (t - f + 1)) B D R _ (HC.out.below hbw (Nat.le_refl _)) hV hob HRD.out (by rw [runW_len]) (by omega) (by omega) (runW_at (show 0 < t - f + 1 by omega)) (by refine (runW_at (show t - f + 1 - 1 < t - f + 1 by omega)).trans ?_; congr 1; omega) (fun i a b ha hb => by
                      have h1 := (List.getElem?_eq_some_iff.1 ha).1
                      have h2 := (List.getElem?_eq_some_iff.1 hb).1
                      rw [runW_len] at h1 h2
                      rw [runW_at h1] at ha
                      rw [runW_at h2] at hb
                      cases ha; cases hb
                      omega)).mono ?_
                    rintro e w9 ⟨rfl, hb9⟩
                    have hB9 : Below w.heap.size w w9 := by (repeat' (first | (with_reducible exact Below.refl _ _) | (with_reducible assumption) | (with_reducible refine Below.drew ?_) | (with_reducible refine below_drewN ?_ _) | (with_reducible refine Below.setCell ?_ ?_ _) | (with_reducible refine Below.alloc ?_ ?_ _) | (refine Below.trans ?_ (Below.mono (by with_reducible assumption) ?_)) | omega | (exact Below.size (by with_reducible assumption)) | (simp; done) | (simp; omega)))
                    have q9 := q0.below hb9 q0.lt
                    have r9 := q1.below hb9 q1.lt
                    have HW := Lib.hid (fun s : Aft w9 => works21 s.w ((HT.out.below hB9 (Nat.le_refl _)).below s.h (Nat.le_refl _)))
                    cases hok : okWalk B o (runW f (t - f + 1))
                    · have hx7 := Aft.cell r9
                      clear q0 q1 k0 k1 f0 f1 l0 l1 hb9 hok
                      go_wp2
                      refine wp_region_aft (by kernel_rfl) (by kernel_rfl) ?_; (repeat (go_big_quiet_step ((go_at_call 21; exact aft_of (HW.out _))))); refine wpQuiet_nil ?_; rintro w6 ⟨⟨_, hb6⟩, rfl⟩
                      go_wp2
                      go_ret
                      exact ⟨rfl, by (repeat' (first | (with_reducible exact Below.refl _ _) | (with_reducible assumption) | (with_reducible refine Below.drew ?_) | (with_reducible refine below_drewN ?_ _) | (with_reducible refine Below.setCell ?_ ?_ _) | (with_reducible refine Below.alloc ?_ ?_ _) | (refine Below.trans ?_ (Below.mono (by with_reducible assumption) ?_)) | omega | (exact Below.size (by with_reducible assumption)) | (simp; done) | (simp; omega)))⟩
                    · exact absurd HZ.out (run_some (show f ≤ t by omega) hok)
              · have h1 : e1 = 0 := by have := Z1.out; rwa [if_neg hz] at this
                have hne : xs ≠ [] := by rw [← XS.out]; exact fun h => hz ((bitsL_nil ht12).1 h)
                have hsub := bits_sub (B := B) (f := f) (t := t) (show 0 ≤ o by omega) (show o ≤ o + d by omega)
                have hmore := bits_more (B := B) (f := f) (t := t) (show 0 ≤ o by omega) (show o ≤ o + d by omega)
                rw [XS.out, YS.out] at hsub hmore
                have h2 : e2 = 0 := by
                  have := Z2.out
                  rwa [if_neg (fun h => by
                    have h3 := (bitsL_nil ht12).2 h
                    rw [YS.out] at h3
                    rw [h3] at hsub
                    obtain ⟨x, hx⟩ := List.exists_mem_of_ne_nil _ hne
                    cases hsub x hx)] at this
                have hx0 : 0 < xs.length := List.length_pos_iff.2 hne
                obtain ⟨x, hx⟩ : ∃ x, Hid (xs[0]? = some x) := ⟨xs[0], by simp [Hid, hx0]⟩
                obtain ⟨y, hy⟩ : ∃ y, Hid (ys[0]? = some y) := ⟨ys[0]'(by omega), by simp [Hid]⟩
                have hyx : y ≤ x := head_le (YS.out ▸ bitsL_sorted _) hy.out (hsub x (List.mem_of_getElem? hx.out))
                have HS := Lib.hid hsub
                subst h1 h2
                obtain ⟨b4, o4, rfl, hl4, g4⟩ := HR4b.out.elem hx.out
                obtain ⟨b5, o5, rfl, hl5, g5⟩ := HR5.out.elem hy.out
                rw [Nat.add_zero] at g4 g5
                have g4' := fun s : Aft w5 => (Aft.old s hl4 _).trans g4
                have g5' := fun s : Aft w5 => (Aft.old s hl5 _).trans g5
                have HSB := Lib.hid (fun s : Aft w5 => subset24 _ _ xs.length ys.length cap4 cap5 xs ys s.w (HR4b.out.below s.h (Nat.le_refl _)) (HR5.out.below s.h (Nat.le_refl _)) rfl rfl (by omega) (by omega) HS.out hmore)
                have HKN := Lib.hid (fun s : Aft w5 => isKnown23 0 s.w (Or.inl rfl))
                clear hz hne hsub
                go_wp2
                have hd3 : decide (40 < (xs.length : Int)) = false := by simp; omega
                have hd4 : decide (40 < (ys.length : Int)) = false := by simp; omega
                have hd5 : decide (x < y) = false := by simp; omega
                have hd6 : ((xs.length : Int) == 0) = false := by rw [beq_eq_false_iff_ne]; omega
                refine wp_region_aft (by kernel_rfl) (by kernel_rfl) ?_; (repeat (go_big_quiet_step ((first | (go_at_call 23; exact aft_same (HKN.out _)) | (go_at_call 24; exact aft_same (HSB.out _)))))); refine wpQuiet_nil ?_; rintro w7 ⟨⟨_, hb7⟩, rfl⟩
                have hB7 : Below w.heap.size w w7 := by (repeat' (first | (with_reducible exact Below.refl _ _) | (with_reducible assumption) | (with_reducible refine Below.drew ?_) | (with_reducible refine below_drewN ?_ _) | (with_reducible refine Below.setCell ?_ ?_ _) | (with_reducible refine Below.alloc ?_ ?_ _) | (refine Below.trans ?_ (Below.mono (by with_reducible assumption) ?_)) | omega | (exact Below.size (by with_reducible assumption)) | (simp; done) | (simp; omega)))
                have q7 := q0.below hb7 q0.lt
                have r7 := q1.below hb7 q1.lt
                have HR7 := Lib.hid (HR4b.out.below hb7 (Nat.le_refl _))
                clear q0 q1 l0 l1 k0 k1 f0 f1 hB5 hb7 HR4b HR5 g4 g5 g4' g5' HSB HKN hd3 hd4 hd5 hd6 hyx hy hl4 hl5
                obtain ⟨l0, k0, f0⟩ := q7
                have q0 := Own.mk l0 k0 f0
                obtain ⟨l1, k1, f1⟩ := r7
                have q1 := Own.mk l1 k1 f1
                go_wp2
                go_loopg [11, 12] (t - f + 1) (fun K v y wr => ∃ j : Nat, K + j = t - f + 1 ∧ y = .int .i64 ((f + j : Nat) : Int) ∧ Gro wr w7.heap.size 3 1 v ((natI (runW f j)).map irow) ∧ Own wr w.heap.size [.slice A0 n0 c0, .slice A1 n1 c1, .slice A2 n2 c2, .int .i64 cw] ∧ Own wr (w.heap.size + 1) [.int .i64 o, .int .i64 f, .int .i64 t, .int .i64 m] ∧ Below w.heap.size w wr ∧ Below w7.heap.size w7 wr)
                case atStart => exact ⟨0, by omega, rfl, Gro.nil _ _ _ _, q0, q1, hB7, Below.refl _ _⟩
                case round =>
                  clear q0 q1 k0 k1 f0 f1
                  obtain ⟨j, hj, rfl, hg, q0, q1, hbw, hbv⟩ := hrel
                  have p0 := q0
                  have p1 := q1
                  obtain ⟨_, k0, f0⟩ := p0
                  obtain ⟨_, k1, f1⟩ := p1
                  have hz7 : w7.heap.size ≤ wr.heap.size := hbv.size
                  by_cases hlt : f + j ≤ t
                  · have hll : ((natI (runW f j)).map irow).length = j := by rw [List.length_map]; unfold natI; rw [List.length_map, runW_len]
                    go_wp2_with (at_builtin; go_must (refine wpList_append_own _ rfl _ _ 46 rfl w7.heap.size 3 i0 (.int .i64 0) 1 8 Tryd.underlying46 hi0 hi1 hi2 hi3 rfl (by decide) _ _ _ rfl (hg.2.alloc _) ⟨wr.heap.size, 0, none⟩ 1 1 [.int .i64 ((f + j : Nat) : Int)] rfl rfl (cell_one_new _ _ _) (by intro u hu; simp at hu; subst hu; rfl) (by unfold maxLen; omega) (by omega) (by simp; omega) ?_; intro v' w8 hown' hgrow hnil; have hbA : Below w7.heap.size wr w8 := ((Below.refl _ wr).alloc hz7 _).grown hgrow (by simp; omega) (fun i hi => (hg.2.lt i hi).1); have hg8 : Gro w8 w7.heap.size 3 1 v' ((natI (runW f j)).map irow ++ [irow ((f + j : Nat) : Int)]) := Gro.grown hg rfl hown'; clear hown' hgrow hnil))
                    go_roundg (t - f + 1 - (j + 1))
                    case measure => omega
                    case rel => exact ⟨j + 1, by omega, by go_num, (by rw [runW_succ]; unfold natI; rw [List.map_append, List.map_append]; exact hg8), q0.below hbA l0, q1.below hbA l1, hbw.trans (hbA.mono (by omega)), hbv.trans hbA⟩
                  · have hj' : j = t - f + 1 := by omega
                    subst hj'
                    have hll : ((natI (runW f (t - f + 1))).map irow).length = t - f + 1 := by rw [List.length_map]; unfold natI; rw [List.length_map, runW_len]
                    obtain ⟨A8, cap8, rfl, hrd⟩ := hg.out
                    have HRD := Lib.hid hrd
                    clear hg hrd
                    go_wp2_with fail
                    refine (isWalk25 A0 A1 A2 n0 n1 n2 c0 c1 c2 cw A8 _ cap8 o f t (runW f (t - f + 1)) B D R _ (HC.out.below hbw (Nat.le_refl _)) hV hob HRD.out (by rw [runW_len]) (by omega) (by omega) (runW_at (show 0 < t - f + 1 by omega)) (by refine (runW_at (show t - f + 1 - 1 < t - f + 1 by omega)).trans ?_; congr 1; omega) (fun i a b ha hb => by
                      have h1 := (List.getElem?_eq_some_iff.1 ha).1
                      have h2 := (List.getElem?_eq_some_iff.1 hb).1
                      rw [runW_len] at h1 h2
                      rw [runW_at h1] at ha
                      rw [runW_at h2] at hb
                      cases ha; cases hb
                      omega)).mono ?_
                    rintro e w9 ⟨rfl, hb9⟩
                    have hB9 : Below w.heap.size w w9 := by (repeat' (first | (with_reducible exact Below.refl _ _) | (with_reducible assumption) | (with_reducible refine Below.drew ?_) | (with_reducible refine below_drewN ?_ _) | (with_reducible refine Below.setCell ?_ ?_ _) | (with_reducible refine Below.alloc ?_ ?_ _) | (refine Below.trans ?_ (Below.mono (by with_reducible assumption) ?_)) | omega | (exact Below.size (by with_reducible assumption)) | (simp; done) | (simp; omega)))
                    have q9 := q0.below hb9 q0.lt
                    have r9 := q1.below hb9 q1.lt
                    have HW := Lib.hid (fun s : Aft w9 => works21 s.w ((HT.out.below hB9 (Nat.le_refl _)).below s.h (Nat.le_refl _)))
                    cases hok : okWalk B o (runW f (t - f + 1))
                    · have hx7 := Aft.cell r9
                      clear q0 q1 k0 k1 f0 f1 l0 l1 hb9 hok
                      go_wp2
                      refine wp_region_aft (by kernel_rfl) (by kernel_rfl) ?_; (repeat (go_big_quiet_step ((go_at_call 21; exact aft_of (HW.out _))))); refine wpQuiet_nil ?_; rintro w6 ⟨⟨_, hb6⟩, rfl⟩
                      go_wp2
                      go_ret
                      exact ⟨rfl, by (repeat' (first | (with_reducible exact Below.refl _ _) | (with_reducible assumption) | (with_reducible refine Below.drew ?_) | (with_reducible refine below_drewN ?_ _) | (with_reducible refine Below.setCell ?_ ?_ _) | (with_reducible refine Below.alloc ?_ ?_ _) | (refine Below.trans ?_ (Below.mono (by with_reducible assumption) ?_)) | omega | (exact Below.size (by with_reducible assumption)) | (simp; done) | (simp; omega)))⟩
                    · obtain ⟨z, hz0⟩ : ∃ z, Hid (xs[xs.length - 1]? = some z) := ⟨xs[xs.length - 1]'(by omega), by simp [Hid]⟩
                      have hze : z = (t : Int) - f := last_run (B := B) (o := o) (by omega) ht12 hok (by rw [XS.out]; exact hz0.out)
                      subst hze
                      obtain ⟨b6, o6, hbb, hl6, g6⟩ := ((HR7.out.below hbv (Nat.le_refl _)).below hb9 (Nat.le_refl _)).elem hz0.out
                      cases hbb
                      have g6' := fun s : Aft w9 => (Aft.old s hl6 _).trans g6
                      have hx7 := Aft.cell r9
                      have hx8 := Aft.cell q9
                      have hxe : ((xs.length : Int) - 1) = ((xs.length - 1 : Nat) : Int) := by omega
                      clear q0 q1 k0 k1 f0 f1 l0 l1 hb9 hok g6
                      go_wp2
                      refine wp_region_aft (by kernel_rfl) (by kernel_rfl) ?_; (repeat (go_big_quiet_step ((go_at_call 21; exact aft_of (HW.out _))))); refine wpQuiet_nil ?_; rintro w6 ⟨⟨_, hb6⟩, rfl⟩
                      go_wp2
                      go_ret
                      exact ⟨rfl, by (repeat' (first | (with_reducible exact Below.refl _ _) | (with_reducible assumption) | (with_reducible refine Below.drew ?_) | (with_reducible refine below_drewN ?_ _) | (with_reducible refine Below.setCell ?_ ?_ _) | (with_reducible refine Below.alloc ?_ ?_ _) | (refine Below.trans ?_ (Below.mono (by with_reducible assumption) ?_)) | omega | (exact Below.size (by with_reducible assumption)) | (simp; done) | (simp; omega)))⟩

end Go.Proofs.YtibkgnnpmidgfaaDoor
