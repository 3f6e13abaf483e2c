/- Walks: CoastsWay of the program. -/
import Derived.Test.YtibkgnnpmidgfaaDoorDa
namespace Go.Proofs.YtibkgnnpmidgfaaDoor
open Go.RowKit Go.Maps

theorem walkB_join {B : List Pt} {o : Int} {f v : Nat} {a : Nat} (h1 : walkB B o f a v = true) : ∀ {b t : Nat}, walkB B o v b t = true → walkB B o f (a + b) t = true
  | 0, t, h => by simp [walkB] at h; subst h; exact h1
  | b + 1, t, h => by
    simp only [walkB, List.any_eq_true, List.mem_range, Bool.and_eq_true, decide_eq_true_eq] at h
    obtain ⟨c, hc, ⟨hv, hr⟩, hw⟩ := h
    have ih := walkB_join h1 hw
    have hf := walkB_ge h1
    show walkB B o f ((a + b) + 1) t = true
    simp only [walkB, List.any_eq_true, List.mem_range, Bool.and_eq_true, decide_eq_true_eq]
    exact ⟨c, hc, ⟨by omega, hr⟩, ih⟩
theorem mem_bitsL {m : Nat} {x : Int} : x ∈ bitsL m ↔ ∃ k : Nat, k < 13 ∧ m.testBit k = true ∧ x = k := by
  unfold bitsL
  simp only [List.mem_map, List.mem_filter, List.mem_range]
  constructor
  · rintro ⟨k, ⟨h1, h2⟩, rfl⟩; exact ⟨k, h1, h2, rfl⟩
  · rintro ⟨k, h1, h2, rfl⟩; exact ⟨k, ⟨h1, h2⟩, rfl⟩
theorem bitsL_len (m : Nat) : (bitsL m).length ≤ 13 := by
  unfold bitsL
  rw [List.length_map]
  exact Nat.le_trans (List.length_filter_le _ _) (by simp)
theorem bits_ok {B : List Pt} {o : Int} {f t : Nat} {x : Int} (h : x ∈ bitsL (mk B o f t)) (hft : f < t) : 1 ≤ x ∧ x ≤ 12 := by
  obtain ⟨k, h1, h2, rfl⟩ := mem_bitsL.1 h
  rw [mk_bit] at h2
  refine ⟨?_, by omega⟩
  cases k with
  | zero => simp [walkB] at h2; omega
  | succ k => omega
theorem bits_way {B : List Pt} {o : Int} {f v t : Nat} {a b : Int} (ha : a ∈ bitsL (mk B o f v)) (hb : b ∈ bitsL (mk B o v t)) (ht : t < 12) : a + b ∈ bitsL (mk B o f t) := by
  obtain ⟨i, h1, h2, rfl⟩ := mem_bitsL.1 ha
  obtain ⟨j, h3, h4, rfl⟩ := mem_bitsL.1 hb
  rw [mk_bit] at h2 h4
  have h := walkB_join h2 h4
  have hg := walkB_ge h
  exact mem_bitsL.2 ⟨i + j, by omega, by rw [mk_bit]; exact h, by omega⟩
theorem cnt_ok {cw : Int} {B D : List Pt} {R : List Rep} {o f t : Int} (h : chkE cw B D R = 0) (ho : btw o 1 60 = true) (hp : plB B.length f t = true) :
    cntL cw B D R o f t = bitsL (mk B o f.toNat t.toNat) ∧ (cntE cw B D R o f t = 0 ∨ cntE cw B D R o f t = 3) := by
  have ha : askE cw B D R (askC B o f t) = 0 := by rw [ask_ok h, if_pos (by unfold askC; rw [ho, hp]; rfl)]
  unfold cntL cntE
  rw [if_pos ha, if_pos ha]
  exact ⟨rfl, by split <;> simp⟩

set_option maxRecDepth 100000 in
set_option maxHeartbeats 8000000 in
theorem way5 (A0 A1 A2 : Option Addr) (n0 n1 n2 c0 c1 c2 : Nat) (cw : Int) (o f t m v : Int) (B D : List Pt) (R : List Rep) (w : World) (hC : RdC w A0 A1 A2 n0 n1 n2 B D R) (hT : Tab w) (ht : -9223372036854775808 ≤ t ∧ t ≤ 9223372036854775807) (hv : -9223372036854775808 ≤ v ∧ v ≤ 9223372036854775807) :
    Calls Tryd.prog 5 #[.agg #[.slice A0 n0 c0, .slice A1 n1 c1, .slice A2 n2 c2, .int .i64 cw], .agg #[.int .i64 o, .int .i64 f, .int .i64 t, .int .i64 m], .int .i64 v] w fun e w' => e = .returned (.bool true) ∧ Below w.heap.size w w' := by
  have HC := Lib.hid hC
  have HT := Lib.hid hT
  have HL := Lib.hid hC.h0
  clear hC hT
  have o0 : Own ((w.alloc (.cells #[.slice A0 n0 c0, .slice A1 n1 c1, .slice A2 n2 c2, .int .i64 cw] 26)).alloc (.cells #[.int .i64 o, .int .i64 f, .int .i64 t, .int .i64 m] 44)) w.heap.size [.slice A0 n0 c0, .slice A1 n1 c1, .slice A2 n2 c2, .int .i64 cw] := (Own.new' _ _ rfl rfl).alloc _
  have o1 : Own ((w.alloc (.cells #[.slice A0 n0 c0, .slice A1 n1 c1, .slice A2 n2 c2, .int .i64 cw] 26)).alloc (.cells #[.int .i64 o, .int .i64 f, .int .i64 t, .int .i64 m] 44)) (w.heap.size + 1) [.int .i64 o, .int .i64 f, .int .i64 t, .int .i64 m] := Own.new' _ _ (by simp) rfl
  have oB : Below w.heap.size w ((w.alloc (.cells #[.slice A0 n0 c0, .slice A1 n1 c1, .slice A2 n2 c2, .int .i64 cw] 26)).alloc (.cells #[.int .i64 o, .int .i64 f, .int .i64 t, .int .i64 m] 44)) := by (repeat' (first | (with_reducible exact Below.refl _ _) | (with_reducible assumption) | (with_reducible refine Below.drew ?_) | (with_reducible refine below_drewN ?_ _) | (with_reducible refine Below.setCell ?_ ?_ _) | (with_reducible refine Below.alloc ?_ ?_ _) | (refine Below.trans ?_ (Below.mono (by with_reducible assumption) ?_)) | omega | (exact Below.size (by with_reducible assumption)) | (simp; done) | (simp; omega)))
  go_enter Tryd.func5, Tryd.ntmps5
  go_wp2_with fail
  refine (ready19 A0 A1 A2 n0 n1 n2 c0 c1 c2 cw B D R _ (HC.out.below oB (Nat.le_refl _))).mono ?_
  rintro e w1 ⟨b, rfl, hrdy, hb1⟩
  have q0 := o0.below hb1 o0.lt
  have q1 := o1.below hb1 o1.lt
  have hB1 : Below w.heap.size w w1 := by (repeat' (first | (with_reducible exact Below.refl _ _) | (with_reducible assumption) | (with_reducible refine Below.drew ?_) | (with_reducible refine below_drewN ?_ _) | (with_reducible refine Below.setCell ?_ ?_ _) | (with_reducible refine Below.alloc ?_ ?_ _) | (refine Below.trans ?_ (Below.mono (by with_reducible assumption) ?_)) | omega | (exact Below.size (by with_reducible assumption)) | (simp; done) | (simp; omega)))
  obtain ⟨l0, k0, f0⟩ := q0
  have q0 := Own.mk l0 k0 f0
  obtain ⟨l1, k1, f1⟩ := q1
  have q1 := Own.mk l1 k1 f1
  clear o0 o1 oB hb1
  cases b
  · (go_wp2_with fail; refine (works21 _ (HT.out.below hB1 (Nat.le_refl _))).mono ?_; rintro e w9 ⟨rfl, hb9⟩; go_wp2; go_ret; exact ⟨rfl, by (repeat' (first | (with_reducible exact Below.refl _ _) | (with_reducible assumption) | (with_reducible refine Below.drew ?_) | (with_reducible refine below_drewN ?_ _) | (with_reducible refine Below.setCell ?_ ?_ _) | (with_reducible refine Below.alloc ?_ ?_ _) | (refine Below.trans ?_ (Below.mono (by with_reducible assumption) ?_)) | omega | (exact Below.size (by with_reducible assumption)) | (simp; done) | (simp; omega)))⟩)
  · have H := Lib.hid (hrdy rfl)
    clear hrdy
    cases hop : btw o 1 60
    · have HO := Lib.hid hop
      clear hop
      go_wp2_with (first | (go_at_call 20; refine (cbP HO.out (isOpening20 _ _)).mono ?_; rintro e w2 ⟨rfl, rfl⟩) | fail)
      (go_wp2_with fail; refine (works21 _ (HT.out.below hB1 (Nat.le_refl _))).mono ?_; rintro e w9 ⟨rfl, hb9⟩; go_wp2; go_ret; exact ⟨rfl, by (repeat' (first | (with_reducible exact Below.refl _ _) | (with_reducible assumption) | (with_reducible refine Below.drew ?_) | (with_reducible refine below_drewN ?_ _) | (with_reducible refine Below.setCell ?_ ?_ _) | (with_reducible refine Below.alloc ?_ ?_ _) | (refine Below.trans ?_ (Below.mono (by with_reducible assumption) ?_)) | omega | (exact Below.size (by with_reducible assumption)) | (simp; done) | (simp; omega)))⟩)
    · have HO := Lib.hid hop
      go_wp2_with (first | (go_at_call 20; refine (cbP HO.out (isOpening20 _ _)).mono ?_; rintro e w2 ⟨rfl, rfl⟩) | fail)
      refine (areBends15 _ _ _ _ _ _ _ _ _ _ _ _ _).mono ?_
      cases hp1 : plB n0 f v
      · rintro e w2 ⟨rfl, hb2⟩
        have hB2 : Below w.heap.size w w2 := by (repeat' (first | (with_reducible exact Below.refl _ _) | (with_reducible assumption) | (with_reducible refine Below.drew ?_) | (with_reducible refine below_drewN ?_ _) | (with_reducible refine Below.setCell ?_ ?_ _) | (with_reducible refine Below.alloc ?_ ?_ _) | (refine Below.trans ?_ (Below.mono (by with_reducible assumption) ?_)) | omega | (exact Below.size (by with_reducible assumption)) | (simp; done) | (simp; omega)))
        clear hop hp1 hb2
        (go_wp2_with fail; refine (works21 _ (HT.out.below hB2 (Nat.le_refl _))).mono ?_; rintro e w9 ⟨rfl, hb9⟩; go_wp2; go_ret; exact ⟨rfl, by (repeat' (first | (with_reducible exact Below.refl _ _) | (with_reducible assumption) | (with_reducible refine Below.drew ?_) | (with_reducible refine below_drewN ?_ _) | (with_reducible refine Below.setCell ?_ ?_ _) | (with_reducible refine Below.alloc ?_ ?_ _) | (refine Below.trans ?_ (Below.mono (by with_reducible assumption) ?_)) | omega | (exact Below.size (by with_reducible assumption)) | (simp; done) | (simp; omega)))⟩)
      · rintro e w2 ⟨rfl, hb2⟩
        have HP1 := Lib.hid hp1
        have q2 := q0.below hb2 q0.lt
        have r2 := q1.below hb2 q1.lt
        have hB2 : Below w.heap.size w w2 := by (repeat' (first | (with_reducible exact Below.refl _ _) | (with_reducible assumption) | (with_reducible refine Below.drew ?_) | (with_reducible refine below_drewN ?_ _) | (with_reducible refine Below.setCell ?_ ?_ _) | (with_reducible refine Below.alloc ?_ ?_ _) | (refine Below.trans ?_ (Below.mono (by with_reducible assumption) ?_)) | omega | (exact Below.size (by with_reducible assumption)) | (simp; done) | (simp; omega)))
        clear hop hp1 hb2 q0 q1 l0 l1 k0 k1 f0 f1
        obtain ⟨l0, k0, f0⟩ := q2
        have q0 := Own.mk l0 k0 f0
        obtain ⟨l1, k1, f1⟩ := r2
        have q1 := Own.mk l1 k1 f1
        go_wp2_with fail
        refine (areBends15 _ _ _ _ _ _ _ _ _ _ _ _ _).mono ?_
        cases hp2 : plB n0 v t
        · rintro e w3 ⟨rfl, hb3⟩
          have hB3 : Below w.heap.size w w3 := by (repeat' (first | (with_reducible exact Below.refl _ _) | (with_reducible assumption) | (with_reducible refine Below.drew ?_) | (with_reducible refine below_drewN ?_ _) | (with_reducible refine Below.setCell ?_ ?_ _) | (with_reducible refine Below.alloc ?_ ?_ _) | (refine Below.trans ?_ (Below.mono (by with_reducible assumption) ?_)) | omega | (exact Below.size (by with_reducible assumption)) | (simp; done) | (simp; omega)))
          clear hp2 hb3
          (go_wp2_with fail; refine (works21 _ (HT.out.below hB3 (Nat.le_refl _))).mono ?_; rintro e w9 ⟨rfl, hb9⟩; go_wp2; go_ret; exact ⟨rfl, by (repeat' (first | (with_reducible exact Below.refl _ _) | (with_reducible assumption) | (with_reducible refine Below.drew ?_) | (with_reducible refine below_drewN ?_ _) | (with_reducible refine Below.setCell ?_ ?_ _) | (with_reducible refine Below.alloc ?_ ?_ _) | (refine Below.trans ?_ (Below.mono (by with_reducible assumption) ?_)) | omega | (exact Below.size (by with_reducible assumption)) | (simp; done) | (simp; omega)))⟩)
        · rintro e w3 ⟨rfl, hb3⟩
          have HP2 := Lib.hid hp2
          have hB3 : Below w.heap.size w w3 := by (repeat' (first | (with_reducible exact Below.refl _ _) | (with_reducible assumption) | (with_reducible refine Below.drew ?_) | (with_reducible refine below_drewN ?_ _) | (with_reducible refine Below.setCell ?_ ?_ _) | (with_reducible refine Below.alloc ?_ ?_ _) | (refine Below.trans ?_ (Below.mono (by with_reducible assumption) ?_)) | omega | (exact Below.size (by with_reducible assumption)) | (simp; done) | (simp; omega)))
          have q3 := q0.below hb3 q0.lt
          have r3 := q1.below hb3 q1.lt
          have hpp1 := plB_iff.1 HP1.out
          have hpp2 := plB_iff.1 HP2.out
          have hp3 : plB n0 f t = true := plB_iff.2 (by omega)
          obtain ⟨c1a, c1b⟩ := cnt_ok (cw := cw) (D := D) (R := R) H.out HO.out (by rw [← HL.out]; exact HP1.out)
          obtain ⟨c2a, c2b⟩ := cnt_ok (cw := cw) (D := D) (R := R) H.out HO.out (by rw [← HL.out]; exact HP2.out)
          obtain ⟨c3a, c3b⟩ := cnt_ok (cw := cw) (D := D) (R := R) H.out HO.out (by rw [← HL.out]; exact hp3)
          obtain ⟨e1, he1⟩ : ∃ e, cntE cw B D R o f v = e := ⟨_, rfl⟩
          obtain ⟨e2, he2⟩ : ∃ e, cntE cw B D R o v t = e := ⟨_, rfl⟩
          obtain ⟨e3, he3⟩ : ∃ e, cntE cw B D R o f t = e := ⟨_, rfl⟩
          have hV := Lib.hid (val_of (chk_ok H.out))
          have hn : n0 ≤ 12 := by have := hV.out.b2; have := HL.out; omega
          obtain ⟨f, rfl⟩ := Int.eq_ofNat_of_zero_le hpp1.1
          obtain ⟨v, rfl⟩ := Int.eq_ofNat_of_zero_le hpp2.1
          obtain ⟨t, rfl⟩ := Int.eq_ofNat_of_zero_le (show 0 ≤ t by omega)
          simp only [Int.toNat_natCast] at c1a c2a c3a
          rw [he1] at c1b
          rw [he2] at c2b
          rw [he3] at c3b
          obtain ⟨xs, hxs⟩ : ∃ xs, bitsL (mk B o f v) = xs := ⟨_, rfl⟩
          obtain ⟨ys, hys⟩ : ∃ xs, bitsL (mk B o v t) = xs := ⟨_, rfl⟩
          obtain ⟨zs, hzs⟩ : ∃ xs, bitsL (mk B o f t) = xs := ⟨_, rfl⟩
          have HX := Lib.hid (fun x (h : x ∈ xs) => bits_ok (hxs ▸ h) (by omega))
          have HY := Lib.hid (fun x (h : x ∈ ys) => bits_ok (hys ▸ h) (by omega))
          have HZ := Lib.hid (fun x y (h : x ∈ xs) (h' : y ∈ ys) => hzs ▸ bits_way (hxs ▸ h) (hys ▸ h') (show t < 12 by omega))
          have hxl : xs.length ≤ 13 := hxs ▸ bitsL_len _
          have hyl : ys.length ≤ 13 := hys ▸ bitsL_len _
          have hzl : zs.length ≤ 13 := hzs ▸ bitsL_len _
          rw [hxs] at c1a
          rw [hys] at c2a
          rw [hzs] at c3a
          have C1 := Lib.hid (And.intro c1a he1)
          have C2 := Lib.hid (And.intro c2a he2)
          have C3 := Lib.hid (And.intro c3a he3)
          clear c1a c2a c3a he1 he2 he3 hxs hys hzs hp2 hp3 hb3 q0 q1 l0 l1 k0 k1 f0 f1 hB2
          obtain ⟨l0, k0, f0⟩ := q3
          have q0 := Own.mk l0 k0 f0
          obtain ⟨l1, k1, f1⟩ := r3
          have q1 := Own.mk l1 k1 f1
          go_wp2_with fail
          refine (counts22 A0 A1 A2 n0 n1 n2 c0 c1 c2 cw o f v B D R _ (HC.out.below hB3 (Nat.le_refl _)) (by omega) (by omega)).mono ?_
          rw [C1.out.1, C1.out.2]
          rintro e w4 ⟨A4, cap4, rfl, hr4, hb4⟩
          have hB4 : Below w.heap.size w w4 := by (repeat' (first | (with_reducible exact Below.refl _ _) | (with_reducible assumption) | (with_reducible refine Below.drew ?_) | (with_reducible refine below_drewN ?_ _) | (with_reducible refine Below.setCell ?_ ?_ _) | (with_reducible refine Below.alloc ?_ ?_ _) | (refine Below.trans ?_ (Below.mono (by with_reducible assumption) ?_)) | omega | (exact Below.size (by with_reducible assumption)) | (simp; done) | (simp; omega)))
          have q4 := q0.below hb4 q0.lt
          have r4 := q1.below hb4 q1.lt
          clear q0 q1 l0 l1 k0 k1 f0 f1 hB3 hb4
          obtain ⟨l0, k0, f0⟩ := q4
          have q0 := Own.mk l0 k0 f0
          obtain ⟨l1, k1, f1⟩ := r4
          have q1 := Own.mk l1 k1 f1
          have HR4 := Lib.hid hr4
          clear hr4
          go_wp2_with fail
          refine (counts22 A0 A1 A2 n0 n1 n2 c0 c1 c2 cw o v t B D R _ (HC.out.below hB4 (Nat.le_refl _)) (by omega) (by omega)).mono ?_
          rw [C2.out.1, C2.out.2]
          rintro e w5 ⟨A5, cap5, rfl, hr5, hb5⟩
          have hB5 : Below w.heap.size w w5 := by (repeat' (first | (with_reducible exact Below.refl _ _) | (with_reducible assumption) | (with_reducible refine Below.drew ?_) | (with_reducible refine below_drewN ?_ _) | (with_reducible refine Below.setCell ?_ ?_ _) | (with_reducible refine Below.alloc ?_ ?_ _) | (refine Below.trans ?_ (Below.mono (by with_reducible assumption) ?_)) | omega | (exact Below.size (by with_reducible assumption)) | (simp; done) | (simp; omega)))
          have q5 := q0.below hb5 q0.lt
          have r5 := q1.below hb5 q1.lt
          have HR4b := Lib.hid (HR4.out.below hb5 (Nat.le_refl _))
          clear q0 q1 l0 l1 k0 k1 f0 f1 hB4 hb5 HR4
          obtain ⟨l0, k0, f0⟩ := q5
          obtain ⟨l1, k1, f1⟩ := r5
          have HR5 := Lib.hid hr5
          clear hr5
          go_wp2_with fail
          refine (counts22 A0 A1 A2 n0 n1 n2 c0 c1 c2 cw o f t B D R _ (HC.out.below hB5 (Nat.le_refl _)) (by omega) (by omega)).mono ?_
          rw [C3.out.1, C3.out.2]
          rintro e w6 ⟨A6, cap6, rfl, hr6, hb6⟩
          have hB6 : Below w.heap.size w w6 := by (repeat' (first | (with_reducible exact Below.refl _ _) | (with_reducible assumption) | (with_reducible refine Below.drew ?_) | (with_reducible refine below_drewN ?_ _) | (with_reducible refine Below.setCell ?_ ?_ _) | (with_reducible refine Below.alloc ?_ ?_ _) | (refine Below.trans ?_ (Below.mono (by with_reducible assumption) ?_)) | omega | (exact Below.size (by with_reducible assumption)) | (simp; done) | (simp; omega)))
          have HR4 := Lib.hid (HR4b.out.below hb6 (Nat.le_refl _))
          have HR5c := Lib.hid (HR5.out.below hb6 (Nat.le_refl _))
          have HR6 := Lib.hid hr6
          clear l0 l1 k0 k1 f0 f1 hB5 hb6 HR4b HR5 hr6 C1 C2 C3
          have C1 := Lib.hid c1b
          have C2 := Lib.hid c2b
          have C3 := Lib.hid c3b
          clear c1b c2b c3b
          go_wp2_with (first | (go_at_call 23; refine (isKnown23 _ _ (by first | exact C1.out | exact C2.out | exact C3.out)).mono ?_; rintro e wk ⟨rfl, rfl⟩) | fail)
          go_loopg [13] xs.length (fun K y wr => ∃ i : Nat, K + i = xs.length ∧ y = .int .i64 i ∧ Below w6.heap.size w6 wr)
          case atStart => exact ⟨0, by omega, rfl, Below.refl _ _⟩
          case round =>
            obtain ⟨i, hi, rfl, hbw⟩ := hrel
            by_cases hlt : i < xs.length
            · obtain ⟨x, hx⟩ : ∃ x, Hid (xs[i]? = some x) := ⟨xs[i], by simp [Hid, hlt]⟩
              obtain ⟨hxl1, hxl2⟩ := HX.out x (List.mem_of_getElem? hx.out)
              go_wp2
              go_loopg [14] ys.length (fun K y wi => ∃ j : Nat, K + j = ys.length ∧ y = .int .i64 j ∧ Below w6.heap.size w6 wi)
              case atStart => exact ⟨0, by omega, rfl, hbw⟩
              case round =>
                clear hbw
                obtain ⟨j, hj, rfl, hbw⟩ := hrel
                by_cases hltj : j < ys.length
                · obtain ⟨y, hy⟩ : ∃ y, Hid (ys[j]? = some y) := ⟨ys[j], by simp [Hid, hltj]⟩
                  obtain ⟨hyl1, hyl2⟩ := HY.out y (List.mem_of_getElem? hy.out)
                  have hzm := HZ.out x y (List.mem_of_getElem? hx.out) (List.mem_of_getElem? hy.out)
                  have HD := Lib.hid (decide_eq_true hzm)
                  obtain ⟨b4, o4, rfl, hl4, g4⟩ := (HR4.out.below hbw (Nat.le_refl _)).elem hx.out
                  obtain ⟨b5, o5, rfl, hl5, g5⟩ := (HR5c.out.below hbw (Nat.le_refl _)).elem hy.out
                  obtain ⟨wo, rfl⟩ : ∃ wo : World, wo = wr := ⟨_, rfl⟩
                  have HIN := Lib.hid (fun s : Aft wo => cbP HD.out (in26 A6 zs.length cap6 zs (x + y) s.w ((HR6.out.below hbw (Nat.le_refl _)).below s.h (Nat.le_refl _)) rfl (by omega)))
                  have hx0 := fun s : Aft wo => (Aft.old s hl4 _).trans g4
                  have hx1 := fun s : Aft wo => (Aft.old s hl5 _).trans g5
                  clear hzm g4 g5
                  go_wp2
                  have hd1 : decide (x < 1) = false := by simp; omega
                  have hd2 : decide (y < 1) = false := by simp; omega
                  have hd3 : decide (40 < x) = false := by simp; omega
                  have hd4 : decide (40 < y) = false := by simp; omega
                  refine wp_region_aft (by kernel_rfl) (by kernel_rfl) ?_; (repeat (go_big_quiet_step ((go_at_call 26; exact aft_same (HIN.out _))))); refine wpQuiet_nil ?_; rintro w7 ⟨⟨_, hb7⟩, rfl⟩
                  have hB7 : Below w6.heap.size w6 w7 := by (repeat' (first | (with_reducible exact Below.refl _ _) | (with_reducible assumption) | (with_reducible refine Below.drew ?_) | (with_reducible refine below_drewN ?_ _) | (with_reducible refine Below.setCell ?_ ?_ _) | (with_reducible refine Below.alloc ?_ ?_ _) | (refine Below.trans ?_ (Below.mono (by with_reducible assumption) ?_)) | omega | (exact Below.size (by with_reducible assumption)) | (simp; done) | (simp; omega)))
                  go_wp2
                  go_roundg (ys.length - (j + 1))
                  case measure => omega
                  case rel => exact ⟨j + 1, by omega, by go_num, hB7⟩
                · go_wp2
                  go_roundg (xs.length - (i + 1))
                  case measure => omega
                  case rel => exact ⟨i + 1, by omega, by go_num, hbw⟩
            · have hB7 : Below w.heap.size w wr := by (repeat' (first | (with_reducible exact Below.refl _ _) | (with_reducible assumption) | (with_reducible refine Below.drew ?_) | (with_reducible refine below_drewN ?_ _) | (with_reducible refine Below.setCell ?_ ?_ _) | (with_reducible refine Below.alloc ?_ ?_ _) | (refine Below.trans ?_ (Below.mono (by with_reducible assumption) ?_)) | omega | (exact Below.size (by with_reducible assumption)) | (simp; done) | (simp; omega)))
              (go_wp2_with fail; refine (works21 _ (HT.out.below hB7 (Nat.le_refl _))).mono ?_; rintro e w9 ⟨rfl, hb9⟩; go_wp2; go_ret; exact ⟨rfl, by (repeat' (first | (with_reducible exact Below.refl _ _) | (with_reducible assumption) | (with_reducible refine Below.drew ?_) | (with_reducible refine below_drewN ?_ _) | (with_reducible refine Below.setCell ?_ ?_ _) | (with_reducible refine Below.alloc ?_ ?_ _) | (refine Below.trans ?_ (Below.mono (by with_reducible assumption) ?_)) | omega | (exact Below.size (by with_reducible assumption)) | (simp; done) | (simp; omega)))⟩)

end Go.Proofs.YtibkgnnpmidgfaaDoor
