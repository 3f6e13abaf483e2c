/- Walks: CoastsLeast of the program. -/
import Derived.Test.YtibkgnnpmidgfaaDoorDh
import Derived.Test.YtibkgnnpmidgfaaDoorDf
namespace Go.Proofs.YtibkgnnpmidgfaaDoor
open Go.RowKit Go.Maps

theorem first_low {B : List Pt} {o : Int} {f t : Nat} (ht : t < 12) (hz : mk B o f t ≠ 0) : (bitsL (mk B o f t))[0]? = some (lowN (mk B o f t) : Int) := by
  have hm := mk_lt13 B o f t ht
  obtain ⟨h1, h2⟩ := lowN_bit hz hm
  have hin : (lowN (mk B o f t) : Int) ∈ bitsL (mk B o f t) := mem_bitsL.2 ⟨_, bit_lt13 ht h1, h1, rfl⟩
  have hne : 0 < (bitsL (mk B o f t)).length := List.length_pos_of_mem hin
  rw [List.getElem?_eq_getElem hne]
  have hle := head_le (bitsL_sorted _) (List.getElem?_eq_getElem hne) hin
  obtain ⟨k, _, h3, h4⟩ := mem_bitsL.1 (List.getElem_mem hne)
  congr 1
  by_cases hk : k < lowN (mk B o f t)
  · rw [h2 k hk] at h3; cases h3
  · omega
/-- With an opening that does not do, there is no walk of so many steps. -/
theorem beyond {cw : Int} {B D : List Pt} {R : List Rep} {o m : Int} {f t : Nat} (h : chkE cw B D R = 0) (ho : btw o 1 60 = true) (hft : f < t) (ht : t < 12) (hp : plB B.length f t = true) (hb : btw (lowN (mk B o f t)) 1 m = false) :
    cntE cw B D R o f t = 3 ∨ (cntE cw B D R o f t = 0 ∧ 0 < (cntL cw B D R o f t).length ∧ ∃ z, (cntL cw B D R o f t)[0]? = some z ∧ m < z) := by
  have h1 := cnt_zero h ho hp
  have h2 := (cnt_ok h ho hp).1
  simp only [Int.toNat_natCast] at h1 h2
  by_cases hz : mk B o f t = 0
  · rw [if_pos hz] at h1; exact Or.inl h1
  · rw [if_neg hz] at h1
    have h3 := first_low (o := o) (B := B) (f := f) ht hz
    refine Or.inr ⟨h1, ?_, _, by rw [h2]; exact h3, ?_⟩
    · rw [h2]; exact (List.getElem?_eq_some_iff.1 h3).1
    · have h4 := (bits_ok (List.mem_of_getElem? h3) hft).1
      false_or_by_contra
      rename_i h5
      rw [btw_iff.2 ⟨h4, by omega⟩] at hb
      cases hb
/-- What Opening answers. -/
theorem opn_cases {cw : Int} {B D : List Pt} {R : List Rep} {m : Int} {f t : Nat} (h : chkE cw B D R = 0) (hm : btw m 1 12 = true) (hp : plB B.length f t = true) :
    (opnE cw B D R f t m = 3 ∧ ∀ i, i < 60 → btw (lowN (mk B ((i + 1 : Nat) : Int) f t)) 1 m = false) ∨
    (opnE cw B D R f t m = 0 ∧ ∃ i : Nat, i < 60 ∧ opnN cw B D R f t m = ((i + 1 : Nat) : Int) ∧ btw (lowN (mk B ((i + 1 : Nat) : Int) f t)) 1 m = true ∧ ∀ j, j < i → btw (lowN (mk B ((j + 1 : Nat) : Int) f t)) 1 m = false) := by
  have ha : askE cw B D R (askO B f t m) = 0 := by rw [ask_ok h, if_pos (by unfold askO; rw [hp, hm]; rfl)]
  unfold opnE opnN
  rw [if_pos ha, if_pos ha]
  simp only [Int.toNat_natCast]
  cases hs : opnS B f t m with
  | none =>
    left
    refine ⟨rfl, fun i hi => ?_⟩
    unfold opnS at hs
    have := List.find?_eq_none.1 hs i (List.mem_range.2 hi)
    simpa using this
  | some i =>
    right
    unfold opnS at hs
    obtain ⟨h1, k, hk, h2, h3⟩ := List.find?_eq_some_iff_getElem.1 hs
    have hki : k = i := by simpa using h2
    subst hki
    refine ⟨rfl, k, by simpa using hk, rfl, h1, fun j hj => ?_⟩
    have := h3 j hj
    simpa using this

set_option maxRecDepth 100000 in
set_option maxHeartbeats 8000000 in
theorem least10 (A0 A1 A2 : Option Addr) (n0 n1 n2 c0 c1 c2 : Nat) (cw : Int) (o f t m d : Int) (B D : List Pt) (R : List Rep) (w : World) (hC : RdC w A0 A1 A2 n0 n1 n2 B D R) (hT : Tab w) (ht : -9223372036854775808 ≤ t ∧ t ≤ 9223372036854775807) :
    Calls Tryd.prog 10 #[.agg #[.slice A0 n0 c0, .slice A1 n1 c1, .slice A2 n2 c2, .int .i64 cw], .agg #[.int .i64 o, .int .i64 f, .int .i64 t, .int .i64 m], .int .i64 d] w fun e w' => e = .returned (.bool true) ∧ Below w.heap.size w w' := by
  have HC := Lib.hid hC
  have HT := Lib.hid hT
  have HL := Lib.hid hC.h0
  clear hC hT
  have o0 : Own ((w.alloc (.cells #[.slice A0 n0 c0, .slice A1 n1 c1, .slice A2 n2 c2, .int .i64 cw] 26)).alloc (.cells #[.int .i64 o, .int .i64 f, .int .i64 t, .int .i64 m] 44)) w.heap.size [.slice A0 n0 c0, .slice A1 n1 c1, .slice A2 n2 c2, .int .i64 cw] := (Own.new' _ _ rfl rfl).alloc _
  have o1 : Own ((w.alloc (.cells #[.slice A0 n0 c0, .slice A1 n1 c1, .slice A2 n2 c2, .int .i64 cw] 26)).alloc (.cells #[.int .i64 o, .int .i64 f, .int .i64 t, .int .i64 m] 44)) (w.heap.size + 1) [.int .i64 o, .int .i64 f, .int .i64 t, .int .i64 m] := Own.new' _ _ (by simp) rfl
  have oB : Below w.heap.size w ((w.alloc (.cells #[.slice A0 n0 c0, .slice A1 n1 c1, .slice A2 n2 c2, .int .i64 cw] 26)).alloc (.cells #[.int .i64 o, .int .i64 f, .int .i64 t, .int .i64 m] 44)) := by (repeat' (first | (with_reducible exact Below.refl _ _) | (with_reducible assumption) | (with_reducible refine Below.drew ?_) | (with_reducible refine below_drewN ?_ _) | (with_reducible refine Below.setCell ?_ ?_ _) | (with_reducible refine Below.alloc ?_ ?_ _) | (refine Below.trans ?_ (Below.mono (by with_reducible assumption) ?_)) | omega | (exact Below.size (by with_reducible assumption)) | (simp; done) | (simp; omega)))
  go_enter Tryd.func10, Tryd.ntmps10
  go_wp2_with fail
  refine (ready19 A0 A1 A2 n0 n1 n2 c0 c1 c2 cw B D R _ (HC.out.below oB (Nat.le_refl _))).mono ?_
  rintro e w1 ⟨b, rfl, hrdy, hb1⟩
  have q0 := o0.below hb1 o0.lt
  have q1 := o1.below hb1 o1.lt
  have hB1 : Below w.heap.size w w1 := by (repeat' (first | (with_reducible exact Below.refl _ _) | (with_reducible assumption) | (with_reducible refine Below.drew ?_) | (with_reducible refine below_drewN ?_ _) | (with_reducible refine Below.setCell ?_ ?_ _) | (with_reducible refine Below.alloc ?_ ?_ _) | (refine Below.trans ?_ (Below.mono (by with_reducible assumption) ?_)) | omega | (exact Below.size (by with_reducible assumption)) | (simp; done) | (simp; omega)))
  obtain ⟨l0, k0, f0⟩ := q0
  have q0 := Own.mk l0 k0 f0
  obtain ⟨l1, k1, f1⟩ := q1
  have q1 := Own.mk l1 k1 f1
  clear o0 o1 oB hb1
  cases b
  · (go_wp2_with fail; refine (works21 _ (HT.out.below hB1 (Nat.le_refl _))).mono ?_; rintro e w9 ⟨rfl, hb9⟩; go_wp2; go_ret; exact ⟨rfl, by (repeat' (first | (with_reducible exact Below.refl _ _) | (with_reducible assumption) | (with_reducible refine Below.drew ?_) | (with_reducible refine below_drewN ?_ _) | (with_reducible refine Below.setCell ?_ ?_ _) | (with_reducible refine Below.alloc ?_ ?_ _) | (refine Below.trans ?_ (Below.mono (by with_reducible assumption) ?_)) | omega | (exact Below.size (by with_reducible assumption)) | (simp; done) | (simp; omega)))⟩)
  · have H := Lib.hid (hrdy rfl)
    clear hrdy
    go_wp2_with fail
    refine (areBends15 _ _ _ _ _ _ _ _ _ _ _ _ _).mono ?_
    cases hp1 : plB n0 f t
    · rintro e w2 ⟨rfl, hb2⟩
      have hB2 : Below w.heap.size w w2 := by (repeat' (first | (with_reducible exact Below.refl _ _) | (with_reducible assumption) | (with_reducible refine Below.drew ?_) | (with_reducible refine below_drewN ?_ _) | (with_reducible refine Below.setCell ?_ ?_ _) | (with_reducible refine Below.alloc ?_ ?_ _) | (refine Below.trans ?_ (Below.mono (by with_reducible assumption) ?_)) | omega | (exact Below.size (by with_reducible assumption)) | (simp; done) | (simp; omega)))
      clear hp1 hb2
      (go_wp2_with fail; refine (works21 _ (HT.out.below hB2 (Nat.le_refl _))).mono ?_; rintro e w9 ⟨rfl, hb9⟩; go_wp2; go_ret; exact ⟨rfl, by (repeat' (first | (with_reducible exact Below.refl _ _) | (with_reducible assumption) | (with_reducible refine Below.drew ?_) | (with_reducible refine below_drewN ?_ _) | (with_reducible refine Below.setCell ?_ ?_ _) | (with_reducible refine Below.alloc ?_ ?_ _) | (refine Below.trans ?_ (Below.mono (by with_reducible assumption) ?_)) | omega | (exact Below.size (by with_reducible assumption)) | (simp; done) | (simp; omega)))⟩)
    · rintro e w2 ⟨rfl, hb2⟩
      have HP1 := Lib.hid hp1
      have q2 := q0.below hb2 q0.lt
      have r2 := q1.below hb2 q1.lt
      have hB2 : Below w.heap.size w w2 := by (repeat' (first | (with_reducible exact Below.refl _ _) | (with_reducible assumption) | (with_reducible refine Below.drew ?_) | (with_reducible refine below_drewN ?_ _) | (with_reducible refine Below.setCell ?_ ?_ _) | (with_reducible refine Below.alloc ?_ ?_ _) | (refine Below.trans ?_ (Below.mono (by with_reducible assumption) ?_)) | omega | (exact Below.size (by with_reducible assumption)) | (simp; done) | (simp; omega)))
      clear hp1 hb2 q0 q1 l0 l1 k0 k1 f0 f1
      obtain ⟨l0, k0, f0⟩ := q2
      have q0 := Own.mk l0 k0 f0
      obtain ⟨l1, k1, f1⟩ := r2
      have q1 := Own.mk l1 k1 f1
      by_cases hm1 : m < 1
      · (go_wp2_with fail; refine (works21 _ (HT.out.below hB2 (Nat.le_refl _))).mono ?_; rintro e w9 ⟨rfl, hb9⟩; go_wp2; go_ret; exact ⟨rfl, by (repeat' (first | (with_reducible exact Below.refl _ _) | (with_reducible assumption) | (with_reducible refine Below.drew ?_) | (with_reducible refine below_drewN ?_ _) | (with_reducible refine Below.setCell ?_ ?_ _) | (with_reducible refine Below.alloc ?_ ?_ _) | (refine Below.trans ?_ (Below.mono (by with_reducible assumption) ?_)) | omega | (exact Below.size (by with_reducible assumption)) | (simp; done) | (simp; omega)))⟩)
      · by_cases hm2 : 12 < m
        · (go_wp2_with fail; refine (works21 _ (HT.out.below hB2 (Nat.le_refl _))).mono ?_; rintro e w9 ⟨rfl, hb9⟩; go_wp2; go_ret; exact ⟨rfl, by (repeat' (first | (with_reducible exact Below.refl _ _) | (with_reducible assumption) | (with_reducible refine Below.drew ?_) | (with_reducible refine below_drewN ?_ _) | (with_reducible refine Below.setCell ?_ ?_ _) | (with_reducible refine Below.alloc ?_ ?_ _) | (refine Below.trans ?_ (Below.mono (by with_reducible assumption) ?_)) | omega | (exact Below.size (by with_reducible assumption)) | (simp; done) | (simp; omega)))⟩)
        · by_cases hd0 : d < 0
          · (go_wp2_with fail; refine (works21 _ (HT.out.below hB2 (Nat.le_refl _))).mono ?_; rintro e w9 ⟨rfl, hb9⟩; go_wp2; go_ret; exact ⟨rfl, by (repeat' (first | (with_reducible exact Below.refl _ _) | (with_reducible assumption) | (with_reducible refine Below.drew ?_) | (with_reducible refine below_drewN ?_ _) | (with_reducible refine Below.setCell ?_ ?_ _) | (with_reducible refine Below.alloc ?_ ?_ _) | (refine Below.trans ?_ (Below.mono (by with_reducible assumption) ?_)) | omega | (exact Below.size (by with_reducible assumption)) | (simp; done) | (simp; omega)))⟩)
          · by_cases hd1 : 12 < d
            · (go_wp2_with fail; refine (works21 _ (HT.out.below hB2 (Nat.le_refl _))).mono ?_; rintro e w9 ⟨rfl, hb9⟩; go_wp2; go_ret; exact ⟨rfl, by (repeat' (first | (with_reducible exact Below.refl _ _) | (with_reducible assumption) | (with_reducible refine Below.drew ?_) | (with_reducible refine below_drewN ?_ _) | (with_reducible refine Below.setCell ?_ ?_ _) | (with_reducible refine Below.alloc ?_ ?_ _) | (refine Below.trans ?_ (Below.mono (by with_reducible assumption) ?_)) | omega | (exact Below.size (by with_reducible assumption)) | (simp; done) | (simp; omega)))⟩)
            · by_cases hmd : 12 < m + d
              · (go_wp2_with fail; refine (works21 _ (HT.out.below hB2 (Nat.le_refl _))).mono ?_; rintro e w9 ⟨rfl, hb9⟩; go_wp2; go_ret; exact ⟨rfl, by (repeat' (first | (with_reducible exact Below.refl _ _) | (with_reducible assumption) | (with_reducible refine Below.drew ?_) | (with_reducible refine below_drewN ?_ _) | (with_reducible refine Below.setCell ?_ ?_ _) | (with_reducible refine Below.alloc ?_ ?_ _) | (refine Below.trans ?_ (Below.mono (by with_reducible assumption) ?_)) | omega | (exact Below.size (by with_reducible assumption)) | (simp; done) | (simp; omega)))⟩)
              · have hpp1 := plB_iff.1 HP1.out
                have hV := Lib.hid (val_of (chk_ok H.out))
                have hn : n0 ≤ 12 := by have := hV.out.b2; have := HL.out; omega
                obtain ⟨f, rfl⟩ := Int.eq_ofNat_of_zero_le hpp1.1
                obtain ⟨t, rfl⟩ := Int.eq_ofNat_of_zero_le (show 0 ≤ t by omega)
                have hft : f < t := by omega
                have htn : t < n0 := by omega
                have ht12 : t < 12 := by omega
                have HPB : Hid (plB B.length f t = true) := by show _ = _; rw [← HL.out]; exact HP1.out
                have oc1 := opn_cases (cw := cw) (D := D) (R := R) (m := m) H.out (btw_iff.2 (by omega)) HPB.out
                have oc2 := opn_cases (cw := cw) (D := D) (R := R) (m := m + d) H.out (btw_iff.2 (by omega)) HPB.out
                obtain ⟨N1, hN1⟩ : ∃ e, opnN cw B D R f t m = e := ⟨_, rfl⟩
                obtain ⟨E1, hE1⟩ : ∃ e, opnE cw B D R f t m = e := ⟨_, rfl⟩
                obtain ⟨N2, hN2⟩ : ∃ e, opnN cw B D R f t (m + d) = e := ⟨_, rfl⟩
                obtain ⟨E2, hE2⟩ : ∃ e, opnE cw B D R f t (m + d) = e := ⟨_, rfl⟩
                rw [hN1, hE1] at oc1
                rw [hN2, hE2] at oc2
                have C1 := Lib.hid (And.intro hN1 hE1)
                have C2 := Lib.hid (And.intro hN2 hE2)
                have OC1 := Lib.hid oc1
                have OC2 := Lib.hid oc2
                clear oc1 oc2 hN1 hE1 hN2 hE2 hpp1
                go_wp2_with fail
                refine (opening18 A0 A1 A2 n0 n1 n2 c0 c1 c2 cw f t m B D R _ (HC.out.below hB2 (Nat.le_refl _)) ((HT.out.below hB2 (Nat.le_refl _))) (by omega) (by omega)).mono ?_
                rw [C1.out.1, C1.out.2]
                rintro e w4 ⟨rfl, hb4⟩
                have hB4 : Below w.heap.size w w4 := by (repeat' (first | (with_reducible exact Below.refl _ _) | (with_reducible assumption) | (with_reducible refine Below.drew ?_) | (with_reducible refine below_drewN ?_ _) | (with_reducible refine Below.setCell ?_ ?_ _) | (with_reducible refine Below.alloc ?_ ?_ _) | (refine Below.trans ?_ (Below.mono (by with_reducible assumption) ?_)) | omega | (exact Below.size (by with_reducible assumption)) | (simp; done) | (simp; omega)))
                have q4 := q0.below hb4 q0.lt
                have r4 := q1.below hb4 q1.lt
                clear q0 q1 l0 l1 k0 k1 f0 f1 hB2 hb4
                obtain ⟨l0, k0, f0⟩ := q4
                have q0 := Own.mk l0 k0 f0
                obtain ⟨l1, k1, f1⟩ := r4
                have q1 := Own.mk l1 k1 f1
                go_wp2_with fail
                refine (opening18 A0 A1 A2 n0 n1 n2 c0 c1 c2 cw f t (m + d) B D R _ (HC.out.below hB4 (Nat.le_refl _)) ((HT.out.below hB4 (Nat.le_refl _))) (by omega) (by omega)).mono ?_
                rw [C2.out.1, C2.out.2]
                rintro e w5 ⟨rfl, hb5⟩
                have hB5 : Below w.heap.size w w5 := by (repeat' (first | (with_reducible exact Below.refl _ _) | (with_reducible assumption) | (with_reducible refine Below.drew ?_) | (with_reducible refine below_drewN ?_ _) | (with_reducible refine Below.setCell ?_ ?_ _) | (with_reducible refine Below.alloc ?_ ?_ _) | (refine Below.trans ?_ (Below.mono (by with_reducible assumption) ?_)) | omega | (exact Below.size (by with_reducible assumption)) | (simp; done) | (simp; omega)))
                have q5 := q0.below hb5 q0.lt
                have r5 := q1.below hb5 q1.lt
                clear q0 q1 l0 l1 k0 k1 f0 f1 hB4 hb5
                obtain ⟨l0, k0, f0⟩ := q5
                have q0 := Own.mk l0 k0 f0
                obtain ⟨l1, k1, f1⟩ := r5
                have q1 := Own.mk l1 k1 f1
                rcases OC1.out with ⟨hE, hall⟩ | ⟨hE, i, hi60, hNi, hyes, hno⟩
                · have hK2 : E2 = 0 ∨ E2 = 3 := by rcases OC2.out with ⟨h, _⟩ | ⟨h, _⟩ <;> simp [h]
                  have hby := beyond (cw := cw) (D := D) (R := R) (o := 60) (m := m) H.out (by decide) hft ht12 HPB.out (hall 59 (by omega))
                  have HBY := Lib.hid hby
                  have HK2 := Lib.hid hK2
                  subst hE
                  clear hall hby hK2
                  go_wp2_with (first | (go_at_call 23; refine (isKnown23 _ _ (by first | exact HK2.out | exact Or.inr rfl)).mono ?_; rintro e wk ⟨rfl, rfl⟩) | fail)
                  refine (counts22 A0 A1 A2 n0 n1 n2 c0 c1 c2 cw 60 f t B D R _ (HC.out.below hB5 (Nat.le_refl _)) (by omega) (by omega)).mono ?_
                  obtain ⟨ls, hls⟩ : ∃ ls, cntL cw B D R 60 f t = ls := ⟨_, rfl⟩
                  rcases HBY.out with h3 | ⟨h3, h4, z, h5, h6⟩
                  · rw [h3, hls]
                    rintro e w9 ⟨A9, cap9, rfl, hr9, hb9⟩
                    have hB9 : Below w.heap.size w w9 := hB5.trans (hb9.mono hB5.size)
                    have HW := Lib.hid (fun s : Aft w9 => works21 s.w ((HT.out.below hB9 (Nat.le_refl _)).below s.h (Nat.le_refl _)))
                    have HKN := Lib.hid (fun s : Aft w9 => isKnown23 3 s.w (Or.inr rfl))
                    have r9 := q1.below hb9 q1.lt
                    have hx9 := Aft.cell r9
                    clear h3 hls hb9 hr9 q0 q1 k0 k1 f0 f1
                    go_wp2
                    refine wp_region_aft (by kernel_rfl) (by kernel_rfl) ?_; (repeat (go_big_quiet_step ((first | (go_at_call 23; exact aft_same (HKN.out _)) | (go_at_call 21; exact aft_of (HW.out _)))))); refine wpQuiet_nil ?_; rintro w7 ⟨⟨_, hb7⟩, rfl⟩
                    go_wp2
                    go_ret
                    exact ⟨rfl, by (repeat' (first | (with_reducible exact Below.refl _ _) | (with_reducible assumption) | (with_reducible refine Below.drew ?_) | (with_reducible refine below_drewN ?_ _) | (with_reducible refine Below.setCell ?_ ?_ _) | (with_reducible refine Below.alloc ?_ ?_ _) | (refine Below.trans ?_ (Below.mono (by with_reducible assumption) ?_)) | omega | (exact Below.size (by with_reducible assumption)) | (simp; done) | (simp; omega)))⟩
                  · rw [hls] at h4 h5
                    rw [h3, hls]
                    rintro e w9 ⟨A9, cap9, rfl, hr9, hb9⟩
                    have hB9 : Below w.heap.size w w9 := hB5.trans (hb9.mono hB5.size)
                    have HW := Lib.hid (fun s : Aft w9 => works21 s.w ((HT.out.below hB9 (Nat.le_refl _)).below s.h (Nat.le_refl _)))
                    have HKN := Lib.hid (fun s : Aft w9 => isKnown23 0 s.w (Or.inl rfl))
                    have r9 := q1.below hb9 q1.lt
                    have hx9 := Aft.cell r9
                    obtain ⟨b9, o9, rfl, hl9, g9⟩ := hr9.elem h5
                    rw [Nat.add_zero] at g9
                    have hx10 := fun s : Aft w9 => (Aft.old s hl9 _).trans g9
                    clear h3 hls hb9 hr9 q0 q1 k0 k1 f0 f1 g9 h5
                    go_wp2
                    have hd7 : decide (0 < (ls.length : Int)) = true := by simp; omega
                    have hd8 : decide (m < z) = true := by simp; omega
                    refine wp_region_aft (by kernel_rfl) (by kernel_rfl) ?_; (repeat (go_big_quiet_step ((first | (go_at_call 23; exact aft_same (HKN.out _)) | (go_at_call 21; exact aft_of (HW.out _)))))); refine wpQuiet_nil ?_; rintro w7 ⟨⟨_, hb7⟩, rfl⟩
                    go_wp2
                    go_ret
                    exact ⟨rfl, by (repeat' (first | (with_reducible exact Below.refl _ _) | (with_reducible assumption) | (with_reducible refine Below.drew ?_) | (with_reducible refine below_drewN ?_ _) | (with_reducible refine Below.setCell ?_ ?_ _) | (with_reducible refine Below.alloc ?_ ?_ _) | (refine Below.trans ?_ (Below.mono (by with_reducible assumption) ?_)) | omega | (exact Below.size (by with_reducible assumption)) | (simp; done) | (simp; omega)))⟩
                · have hl1 := btw_iff.1 hyes
                  have hE2 : E2 = 0 ∧ ∃ i2 : Nat, i2 ≤ i ∧ N2 = ((i2 + 1 : Nat) : Int) := by
                    have hy2 : btw (lowN (mk B ((i + 1 : Nat) : Int) f t)) 1 (m + d) = true := btw_iff.2 ⟨hl1.1, by omega⟩
                    rcases OC2.out with ⟨h, hall⟩ | ⟨h, i2, h60, hN, _, hno2⟩
                    · rw [hall i hi60] at hy2; cases hy2
                    · refine ⟨h, i2, ?_, hN⟩
                      false_or_by_contra
                      rename_i hlt
                      rw [hno2 i (by omega)] at hy2; cases hy2
                  obtain ⟨hE2, i2, hi2, hN2⟩ := hE2
                  have hz : mk B ((i + 1 : Nat) : Int) f t ≠ 0 := by
                    intro e; rw [e] at hl1; simp [lowN] at hl1
                  have HZ := Lib.hid hz
                  have HBI := Lib.hid (btw_iff.2 (by omega) : btw ((i + 1 : Nat) : Int) 1 60 = true)
                  have hlw : lowN (mk B ((i + 1 : Nat) : Int) f t) + 1 ≤ m + 1 ∧ 1 ≤ lowN (mk B ((i + 1 : Nat) : Int) f t) := by omega
                  have HNO := Lib.hid hno
                  subst hE hE2 hNi hN2
                  clear hz hyes hno
                  obtain ⟨lw, hlwe⟩ : ∃ l, lowN (mk B ((i + 1 : Nat) : Int) f t) = l := ⟨_, rfl⟩
                  rw [hlwe] at hlw hl1
                  have HLW := Lib.hid hlwe
                  clear hlwe
                  go_wp2_with (first | (go_at_call 23; refine (isKnown23 _ _ (Or.inl rfl)).mono ?_; rintro e wk ⟨rfl, rfl⟩) | fail)
                  refine (walk43 A0 A1 A2 n0 n1 n2 c0 c1 c2 cw ((i + 1 : Nat) : Int) f t B D R _ (HC.out.below hB5 (Nat.le_refl _)) (HT.out.below hB5 (Nat.le_refl _)) H.out HBI.out hft htn HZ.out).mono ?_
                  rw [HLW.out]
                  rintro e w6 ⟨A6, cap6, ws, rfl, hr6, hIW, hwl, hb6⟩
                  have hB6 : Below w.heap.size w w6 := by (repeat' (first | (with_reducible exact Below.refl _ _) | (with_reducible assumption) | (with_reducible refine Below.drew ?_) | (with_reducible refine below_drewN ?_ _) | (with_reducible refine Below.setCell ?_ ?_ _) | (with_reducible refine Below.alloc ?_ ?_ _) | (refine Below.trans ?_ (Below.mono (by with_reducible assumption) ?_)) | omega | (exact Below.size (by with_reducible assumption)) | (simp; done) | (simp; omega)))
                  have q6 := q0.below hb6 q0.lt
                  have r6 := q1.below hb6 q1.lt
                  clear q0 q1 l0 l1 k0 k1 f0 f1 hB5 hb6
                  obtain ⟨l0, k0, f0⟩ := q6
                  have q0 := Own.mk l0 k0 f0
                  obtain ⟨l1, k1, f1⟩ := r6
                  have q1 := Own.mk l1 k1 f1
                  have HIW := Lib.hid hIW
                  have HR6 := Lib.hid hr6
                  have hwl2 : 2 ≤ ws.length := by omega
                  have hwl3 : (ws.length : Int) ≤ m + 1 := by omega
                  clear hIW hr6 hwl
                  go_wp2_with fail
                  refine (isWalk25 A0 A1 A2 n0 n1 n2 c0 c1 c2 cw A6 ws.length cap6 ((i + 1 : Nat) : Int) f t ws B D R _ (HC.out.below hB6 (Nat.le_refl _)) hV (by omega) HR6.out rfl hwl2 (by omega) HIW.out.a HIW.out.z (fun i a b ha hb => by have := HIW.out.s i a b ha hb; omega)).mono ?_
                  rw [HIW.out.w]
                  rintro e w7 ⟨rfl, hb7⟩
                  have hB7 : Below w.heap.size w w7 := by (repeat' (first | (with_reducible exact Below.refl _ _) | (with_reducible assumption) | (with_reducible refine Below.drew ?_) | (with_reducible refine below_drewN ?_ _) | (with_reducible refine Below.setCell ?_ ?_ _) | (with_reducible refine Below.alloc ?_ ?_ _) | (refine Below.trans ?_ (Below.mono (by with_reducible assumption) ?_)) | omega | (exact Below.size (by with_reducible assumption)) | (simp; done) | (simp; omega)))
                  have q7 := q0.below hb7 q0.lt
                  have r7 := q1.below hb7 q1.lt
                  clear q0 q1 l0 l1 k0 k1 f0 f1 hB6 hb7
                  obtain ⟨l0, k0, f0⟩ := q7
                  have q0 := Own.mk l0 k0 f0
                  obtain ⟨l1, k1, f1⟩ := r7
                  have q1 := Own.mk l1 k1 f1
                  by_cases hi0 : i = 0
                  · have hi1 : (((i + 1 : Nat) : Int) == 1) = true := by simp; omega
                    have hi1' : (((i : Int) + 1) == 1) = true := by simp; omega
                    (go_wp2_with fail; refine (works21 _ (HT.out.below hB7 (Nat.le_refl _))).mono ?_; rintro e w9 ⟨rfl, hb9⟩; go_wp2; go_ret; exact ⟨rfl, by (repeat' (first | (with_reducible exact Below.refl _ _) | (with_reducible assumption) | (with_reducible refine Below.drew ?_) | (with_reducible refine below_drewN ?_ _) | (with_reducible refine Below.setCell ?_ ?_ _) | (with_reducible refine Below.alloc ?_ ?_ _) | (refine Below.trans ?_ (Below.mono (by with_reducible assumption) ?_)) | omega | (exact Below.size (by with_reducible assumption)) | (simp; done) | (simp; omega)))⟩)
                  · have hi1 : (((i + 1 : Nat) : Int) == 1) = false := by rw [beq_eq_false_iff_ne]; omega
                    have hby := beyond (cw := cw) (D := D) (R := R) (o := (i : Int)) (m := m) H.out (btw_iff.2 (by omega)) hft ht12 HPB.out (by have := HNO.out (i - 1) (by omega); rwa [show ((i - 1 + 1 : Nat) : Int) = (i : Int) by omega] at this)
                    have HBY := Lib.hid hby
                    have hie : ((i + 1 : Nat) : Int) - 1 = (i : Int) := by omega
                    clear hby
                    go_wp2_with fail
                    refine (counts22 A0 A1 A2 n0 n1 n2 c0 c1 c2 cw (i : Int) f t B D R _ (HC.out.below hB7 (Nat.le_refl _)) (by omega) (by omega)).mono ?_
                    obtain ⟨ls, hls⟩ : ∃ ls, cntL cw B D R (i : Int) f t = ls := ⟨_, rfl⟩
                    rcases HBY.out with h3 | ⟨h3, h4, z, h5, h6⟩
                    · rw [h3, hls]
                      rintro e w9 ⟨A9, cap9, rfl, hr9, hb9⟩
                      have hB9 : Below w.heap.size w w9 := hB7.trans (hb9.mono hB7.size)
                      have HW := Lib.hid (fun s : Aft w9 => works21 s.w ((HT.out.below hB9 (Nat.le_refl _)).below s.h (Nat.le_refl _)))
                      have HKN := Lib.hid (fun s : Aft w9 => isKnown23 3 s.w (Or.inr rfl))
                      have r9 := q1.below hb9 q1.lt
                      have hx9 := Aft.cell r9
                      clear h3 hls hb9 hr9 q0 q1 k0 k1 f0 f1
                      go_wp2
                      refine wp_region_aft (by kernel_rfl) (by kernel_rfl) ?_; (repeat (go_big_quiet_step ((first | (go_at_call 23; exact aft_same (HKN.out _)) | (go_at_call 21; exact aft_of (HW.out _)))))); refine wpQuiet_nil ?_; rintro w7 ⟨⟨_, hb7⟩, rfl⟩
                      go_wp2
                      go_ret
                      exact ⟨rfl, by (repeat' (first | (with_reducible exact Below.refl _ _) | (with_reducible assumption) | (with_reducible refine Below.drew ?_) | (with_reducible refine below_drewN ?_ _) | (with_reducible refine Below.setCell ?_ ?_ _) | (with_reducible refine Below.alloc ?_ ?_ _) | (refine Below.trans ?_ (Below.mono (by with_reducible assumption) ?_)) | omega | (exact Below.size (by with_reducible assumption)) | (simp; done) | (simp; omega)))⟩
                    · rw [hls] at h4 h5
                      rw [h3, hls]
                      rintro e w9 ⟨A9, cap9, rfl, hr9, hb9⟩
                      have hB9 : Below w.heap.size w w9 := hB7.trans (hb9.mono hB7.size)
                      have HW := Lib.hid (fun s : Aft w9 => works21 s.w ((HT.out.below hB9 (Nat.le_refl _)).below s.h (Nat.le_refl _)))
                      have HKN := Lib.hid (fun s : Aft w9 => isKnown23 0 s.w (Or.inl rfl))
                      have r9 := q1.below hb9 q1.lt
                      have hx9 := Aft.cell r9
                      obtain ⟨b9, o9, rfl, hl9, g9⟩ := hr9.elem h5
                      rw [Nat.add_zero] at g9
                      have hx10 := fun s : Aft w9 => (Aft.old s hl9 _).trans g9
                      clear h3 hls hb9 hr9 q0 q1 k0 k1 f0 f1 g9 h5
                      go_wp2
                      have hd7 : decide (0 < (ls.length : Int)) = true := by simp; omega
                      have hd8 : decide (m < z) = true := by simp; omega
                      refine wp_region_aft (by kernel_rfl) (by kernel_rfl) ?_; (repeat (go_big_quiet_step ((first | (go_at_call 23; exact aft_same (HKN.out _)) | (go_at_call 21; exact aft_of (HW.out _)))))); refine wpQuiet_nil ?_; rintro w7 ⟨⟨_, hb7⟩, rfl⟩
                      go_wp2
                      go_ret
                      exact ⟨rfl, by (repeat' (first | (with_reducible exact Below.refl _ _) | (with_reducible assumption) | (with_reducible refine Below.drew ?_) | (with_reducible refine below_drewN ?_ _) | (with_reducible refine Below.setCell ?_ ?_ _) | (with_reducible refine Below.alloc ?_ ?_ _) | (refine Below.trans ?_ (Below.mono (by with_reducible assumption) ?_)) | omega | (exact Below.size (by with_reducible assumption)) | (simp; done) | (simp; omega)))⟩

end Go.Proofs.YtibkgnnpmidgfaaDoor
