/- Plain: a wheel with the pole inside tells just one area. Walks: both layers are there; TopInside of the program. -/
import Derived.Test.YtgmhelclofnpkaaGreatQq
import Derived.Test.YtgmhelclofnpkaaGreatInA
import Derived.Test.YtgmhelclofnpkaaGreatIj
import Derived.Test.YtgmhelclofnpkaaGreatQc
namespace Go.Proofs.YtgmhelclofnpkaaGreat
namespace Wl
/-- The wheel of TopInside. -/
def inW (circle area : Int) : Wh := ⟨10000, 0, 0, 0, circle, max 0 (area - 10), min 9999 (area + 10), 0⟩
def inE (r n : Int) : Int := ((r + n).tmod 10000 + 10000).tmod 10000
def inK (r n : Int) : List Wk := [⟨1, 1, 1, r, inE r n⟩]
structure InH (circle area n r : Int) : Prop where
  k1 : 0 ≤ circle ∧ circle ≤ 9999
  k2 : 0 ≤ area ∧ area ≤ 9999
  k3 : n = area - circle
  k4 : 0 ≤ r ∧ r < 10000
variable {circle area n r : Int}
theorem inE_eq (r n : Int) : inE r n = (r + n) % 10000 := by
  unfold inE
  have h1 := Int.lt_tmod_of_pos (r + n) (show (0 : Int) < 10000 by decide)
  rw [Int.tmod_eq_emod_of_nonneg (a := (r + n).tmod 10000 + 10000) (by omega)]
  have h2 := Int.tmod_add_mul_tdiv (r + n) 10000
  have h3 : r + n = ((r + n).tmod 10000 + 10000) + 10000 * ((r + n).tdiv 10000 - 1) := by omega
  rw [h3, Int.add_mul_emod_self_left]
  rw [← h3]
theorem inE_bd (r n : Int) : 0 ≤ inE r n ∧ inE r n < 10000 := by
  rw [inE_eq]
  omega
theorem in_v (h : InH circle area n r) : WhV (inW circle area) (inK r n) := by
  have h1 := h.k1
  have h2 := h.k2
  have h4 := h.k4
  have h5 := inE_bd r n
  refine ⟨?_, by simp [inK], fun x hx => ?_⟩
  · constructor <;> simp only [inW] <;> omega
  · simp only [inK, List.mem_cons, List.not_mem_nil, or_false] at hx
    subst hx
    refine ⟨Or.inl rfl, Or.inl rfl, ⟨by simp, by simp⟩, ?_, ?_⟩ <;> simp only [inW] <;> omega
theorem in_trs (h : InH circle area n r) (t : P2) : t ∈ trs (inW circle area) (inK r n) ↔ t = (area, 0) := by
  have h1 := h.k1
  have h2 := h.k2
  have h3 := h.k3
  have h4 := h.k4
  have key : ∀ t1 t2 : Int, Sh.In (inW circle area).lo (inW circle area).hi (-(inW circle area).skew) (inW circle area).skew (t1, t2) → (decide ((wrongsN (inW circle area) (inK r n) (t1, t2) : Int) ≤ (inW circle area).wrong) = true ↔ t1 = area ∧ t2 = 0) := by
    intro t1 t2 hin
    obtain ⟨k1, k2⟩ := hin
    simp only [inW] at k1 k2
    have t20 : t2 = 0 := by omega
    subst t20
    have l1 : lowV (inW circle area) ⟨1, 1, 1, r, inE r n⟩ = 0 := by simp [lowV, inW]
    have l2 : highV (inW circle area) ⟨1, 1, 1, r, inE r n⟩ = 0 := by simp [highV, inW]
    have r1 : rightB (inW circle area) ⟨1, 1, 1, r, inE r n⟩ (t1, 0) = decide (t1 = area) := by
      unfold rightB
      rw [l1, l2]
      unfold turnsB
      rw [Bool.eq_iff_iff, decide_eq_true_eq, decide_eq_true_eq]
      unfold rollV
      simp only [inW]
      rw [inE_eq]
      have e1 : (r + n) % 10000 - r - (1 * (t1 - 1 * circle) + 1 * 0) - 0 = (r + n) % 10000 - (r + (t1 - circle)) := by omega
      rw [e1, emod_back, show r + n - (r + (t1 - circle)) = area - t1 by omega, show (0 : Int) - 0 = 0 by rfl, emod_small (by omega) (by omega) (by omega)]
      omega
    unfold wrongsN inK
    simp only [List.filter_cons, List.filter_nil, r1]
    show decide (_ ≤ (0 : Int)) = true ↔ _
    rw [decide_eq_true_eq]
    by_cases c1 : t1 = area <;> simp [c1]
  unfold trs
  rw [List.mem_filter]
  constructor
  · rintro ⟨m, r⟩
    obtain ⟨t1, t2⟩ := t
    obtain ⟨e1, e2⟩ := (key t1 t2 (allP_in m)).1 r
    rw [e1, e2]
  · rintro rfl
    have hin : Sh.In (inW circle area).lo (inW circle area).hi (-(inW circle area).skew) (inW circle area).skew (area, 0) := by
      unfold Sh.In
      simp only [inW]
      omega
    exact ⟨allP_mem hin, (key area 0 hin).2 ⟨rfl, rfl⟩⟩
end Wl
end Go.Proofs.YtgmhelclofnpkaaGreat
namespace Go.Proofs.YtgmhelclofnpkaaGreat
open Go.RowKit Go.Maps

set_option maxRecDepth 100000 in
set_option maxHeartbeats 4000000 in
theorem sweptW (w : World) : Calls Tryz.prog 8 #[] w fun e w' => e = .returned (.bool true) ∧ Below w.heap.size w w' := by
  go_enter Tryz.func8, Tryz.ntmps8
  go_wp2_with fail
  refine (ex05W _).mono ?_
  rintro e w1 ⟨A0, c0, a1, A, B, ca, cb, rfl, hRA, hRB, hb1⟩
  obtain ⟨W2, hW2⟩ : ∃ W2, W2 = ((w1.alloc (.cells #[.slice A0 3 c0, .int .i64 0, .int .i64 1, .int .i64 13] 26)).alloc (.cells #[.slice A 4 ca, .int .i64 1, .int .i64 1, .int .i64 2] 26)).alloc (.cells #[.int .i64 0, .int .i64 1, .int .i64 2, .int .i64 3] 3) := ⟨_, rfl⟩
  have b2 : Below w1.heap.size w1 W2 := by rw [hW2]; (repeat' (first | (with_reducible exact Below.refl _ _) | (with_reducible assumption) | (with_reducible refine Below.drew ?_) | (with_reducible refine below_drewN ?_ _) | (with_reducible refine Below.setCell ?_ ?_ _) | (with_reducible refine Below.alloc ?_ ?_ _) | (refine Below.trans ?_ (Below.mono (by with_reducible assumption) ?_)) | omega | (exact Below.size (by with_reducible assumption)) | (simp; done) | (simp; omega)))
  have hE : RdI W2 (some ⟨w1.heap.size + 1 + 1, 0, none⟩) exEl := by
    rw [hW2]
    exact Own.rd' (vs := [.int .i64 0, .int .i64 1, .int .i64 2, .int .i64 3]) (Own.new' _ _ (by simp) rfl) rfl (by simp [exEl, irow])
  have RA := Lib.hid (hRA.below b2 (Nat.le_refl _))
  have RB := Lib.hid (hRB.below b2 (Nat.le_refl _))
  have HE := Lib.hid hE
  have hB2 := hb1.trans (b2.mono hb1.size)
  clear hRA hRB hE b2 hb1
  go_wp2_with fail
  rw [← hW2]
  clear hW2
  refine (cTup exSw rfl (kSweepW A B _ exTp exWp exEl 4 ca 4 cb 4 1 1 2 _ RA.out RB.out HE.out (Lib.hid exTkD))).mono ?_
  rintro e w3 ⟨rfl, hb3⟩
  have hB3 := hB2.trans (hb3.mono hB2.size)
  clear hb3 hB2 RA RB HE
  go_wp2_with fail
  refine (dialledW _).mono ?_
  rintro e w4 ⟨rfl, hb4⟩
  go_wp2
  go_ret
  exact ⟨rfl, hB3.trans (hb4.mono hB3.size)⟩
section
attribute [local go_sem ↓] mn2_run mx2_run
set_option maxRecDepth 100000 in
set_option maxHeartbeats 16000000 in
theorem insideW (A B A1 : Option Addr) (T P : List P2) (E : List Int) (n cap m cb n1 cap1 : Nat) (c lo hi r : Int) (w : World) (hA : Rd 2 w A (T.map ptrow)) (hB : Rd 2 w B (P.map ptrow)) (hE : RdI w A1 E) (hn : Hid (n = T.length)) (hm : Hid (m = P.length)) (hn1 : Hid (n1 = E.length)) (hlen : n ≤ 9223372036854775807) (hlen2 : m ≤ 9223372036854775807) (hlen3 : n1 ≤ 9223372036854775807) :
    Calls Tryz.prog 3 #[tkV A n cap c lo hi, .slice B m cb, .agg #[.slice A1 n1 cap1, .int .i64 r]] w fun e w' => e = .returned (.bool true) ∧ Below w.heap.size w w' := by
  have HA := Lib.hid hA
  have HB := Lib.hid hB
  have HE := Lib.hid hE
  clear hA hB hE
  obtain ⟨W0, hW0⟩ : ∃ W0, W0 = (w.alloc (.cells #[.slice A n cap, .int .i64 c, .int .i64 lo, .int .i64 hi] 26)).alloc (.cells #[.slice A1 n1 cap1, .int .i64 r] 29) := ⟨_, rfl⟩
  have p0 : Own W0 w.heap.size (tkC A n cap c lo hi) := by rw [hW0]; exact (Own.new' _ _ rfl rfl).alloc _
  have s0 : Own W0 (w.heap.size + 1) [.slice A1 n1 cap1, .int .i64 r] := by rw [hW0]; exact Own.new' _ _ (by simp) rfl
  have oB : Below w.heap.size w W0 := by rw [hW0]; (repeat' (first | (with_reducible exact Below.refl _ _) | (with_reducible assumption) | (with_reducible refine Below.drew ?_) | (with_reducible refine below_drewN ?_ _) | (with_reducible refine Below.setCell ?_ ?_ _) | (with_reducible refine Below.alloc ?_ ?_ _) | (refine Below.trans ?_ (Below.mono (by with_reducible assumption) ?_)) | omega | (exact Below.size (by with_reducible assumption)) | (simp; done) | (simp; omega)))
  obtain ⟨V, hV⟩ : ∃ V, Tk.chk T P c lo hi = V := ⟨_, rfl⟩
  have hFar := Lib.hid (fun W k1 k2 => (show Calls Tryz.prog 4 #[tkV A n cap c lo hi, .slice B m cb] W (fun e w' => e = .returned (.bool (farB n m V)) ∧ Below W.heap.size W w') from hV ▸ Far05W A B T P n cap m cb c lo hi W k1 k2 hn hm hlen hlen2))
  have hChk := Lib.hid (fun W k1 k2 => (show Calls Tryz.prog 5 #[tkV A n cap c lo hi, .slice B m cb] W (fun e w' => e = .returned (.int .i64 V) ∧ Below W.heap.size W w') from hV ▸ q5CheckW A B T P n cap m cb c lo hi W k1 k2 hn hm hlen hlen2))
  have HV := Lib.hid hV
  clear hV
  have P0 := Lib.hid p0
  have S0 := Lib.hid s0
  have hBx := oB
  obtain ⟨lp, cp, fp⟩ := p0
  obtain ⟨ls, cs, fs⟩ := s0
  clear oB
  cases hf : farB n m V
  rotate_left
  · rw [hf] at hFar
    go_enter Tryz.func3, Tryz.ntmps3
    go_wp2_with fail
    rw [← hW0]
    clear hW0
    refine (hFar.out _ (HA.out.below hBx (Nat.le_refl _)) (HB.out.below hBx (Nat.le_refl _))).mono ?_
    rintro e w1 ⟨rfl, hb1⟩
    have pn := P0.out.below hb1 P0.out.lt
    have sn := S0.out.below hb1 S0.out.lt
    have hBn := hBx.trans (hb1.mono hBx.size)
    clear P0 S0 hBx hb1 lp cp fp ls cs fs
    have hBx := hBn
    clear hBn
    have P0 := Lib.hid pn
    have S0 := Lib.hid sn
    obtain ⟨lp, cp, fp⟩ := pn
    obtain ⟨ls, cs, fs⟩ := sn
    go_wp2_with fail
    refine (sweptW _).mono ?_
    rintro e w9 ⟨rfl, hb9⟩
    go_wp2
    go_ret
    exact ⟨rfl, hBx.trans (hb9.mono hBx.size)⟩
  · rw [hf] at hFar
    have HF := Lib.hid hf
    clear hf
    go_enter Tryz.func3, Tryz.ntmps3
    go_wp2_with fail
    rw [← hW0]
    clear hW0
    refine (hFar.out _ (HA.out.below hBx (Nat.le_refl _)) (HB.out.below hBx (Nat.le_refl _))).mono ?_
    rintro e w1 ⟨rfl, hb1⟩
    have pn := P0.out.below hb1 P0.out.lt
    have sn := S0.out.below hb1 S0.out.lt
    have hBn := hBx.trans (hb1.mono hBx.size)
    clear P0 S0 hBx hb1 lp cp fp ls cs fs
    have hBx := hBn
    clear hBn
    have P0 := Lib.hid pn
    have S0 := Lib.hid sn
    obtain ⟨lp, cp, fp⟩ := pn
    obtain ⟨ls, cs, fs⟩ := sn
    go_wp2_with fail
    refine (hChk.out _ (HA.out.below hBx (Nat.le_refl _)) (HB.out.below hBx (Nat.le_refl _))).mono ?_
    rintro e w2 ⟨rfl, hb2⟩
    have pn := P0.out.below hb2 P0.out.lt
    have sn := S0.out.below hb2 S0.out.lt
    have hBn := hBx.trans (hb2.mono hBx.size)
    clear P0 S0 hBx hb2 lp cp fp ls cs fs
    have hBx := hBn
    clear hBn
    have P0 := Lib.hid pn
    have S0 := Lib.hid sn
    obtain ⟨lp, cp, fp⟩ := pn
    obtain ⟨ls, cs, fs⟩ := sn
    by_cases hv0 : V = 0
    rotate_left
    · have hvb : (V != 0) = true := by simpa using hv0
      clear hv0
      go_wp2_with fail
      refine (sweptW _).mono ?_
      rintro e w9 ⟨rfl, hb9⟩
      go_wp2
      go_ret
      exact ⟨rfl, hBx.trans (hb9.mono hBx.size)⟩
    · obtain ⟨hTv, hPv, hm1, hm8⟩ := Tk.chk_0 (HV.out.trans hv0)
      have HF5 : n ≤ 5 ∧ m ≤ 5 := by
        have := HF.out
        unfold farB at this
        simp only [Bool.or_eq_false_iff, Bool.and_eq_false_iff, decide_eq_false_iff_not] at this
        omega
      have hmL : 1 ≤ m ∧ m ≤ 8 := by have := hm.out; omega
      have hnL : 1 ≤ n ∧ n ≤ 8 := by have := hn.out; have := hTv.len; omega
      have hvb : (V != 0) = false := by simp [hv0]
      have HTv := Lib.hid hTv
      have HPv := Lib.hid hPv
      clear hv0 hTv hPv hm1 hm8
      go_wp2_with fail
      refine (rCheckW B P m cb _ (HB.out.below hBx (Nat.le_refl _)) hm hlen2).mono ?_
      rintro e w3 ⟨v2, rfl, hv2, hb3⟩
      have pn := P0.out.below hb3 P0.out.lt
      have sn := S0.out.below hb3 S0.out.lt
      have hBn := hBx.trans (hb3.mono hBx.size)
      clear P0 S0 hBx hb3 lp cp fp ls cs fs
      have hBx := hBn
      clear hBn
      have P0 := Lib.hid pn
      have S0 := Lib.hid sn
      obtain ⟨lp, cp, fp⟩ := pn
      obtain ⟨ls, cs, fs⟩ := sn
      by_cases hv0 : v2 = 0
      rotate_left
      · have hvb2 : (v2 != 0) = true := by simpa using hv0
        clear hv0 hv2
        go_wp2_with fail
        refine (sweptW _).mono ?_
        rintro e w9 ⟨rfl, hb9⟩
        go_wp2
        go_ret
        exact ⟨rfl, hBx.trans (hb9.mono hBx.size)⟩
      · have hok := Lib.hid (hv2.out hv0)
        have hvb2 : (v2 != 0) = false := by simp [hv0]
        clear hv0 hv2
        by_cases h40 : 40 < n1
        · skip
          go_wp2_with fail
          refine (sweptW _).mono ?_
          rintro e w9 ⟨rfl, hb9⟩
          go_wp2
          go_ret
          exact ⟨rfl, hBx.trans (hb9.mono hBx.size)⟩
        · cases hel : Tk.okEb T c lo hi P E
          · have HEl := Lib.hid (fun W k1 k2 k3 => cBB hel (q5AreElbowsW A B A1 T P E n cap m cb n1 cap1 c lo hi W k1 k2 k3 hn hm hn1 hnL hmL.2 hlen3 (Lib.hid HTv.out.pts) HPv))
            clear hel
            go_wp2_with fail
            refine (HEl.out _ (HA.out.below hBx (Nat.le_refl _)) (HB.out.below hBx (Nat.le_refl _)) (show RdI _ A1 E from HE.out.below hBx (Nat.le_refl _))).mono ?_
            rintro e w4 ⟨rfl, hb4⟩
            have pn := P0.out.below hb4 P0.out.lt
            have sn := S0.out.below hb4 S0.out.lt
            have hBn := hBx.trans (hb4.mono hBx.size)
            clear P0 S0 hBx hb4 lp cp fp ls cs fs
            have hBx := hBn
            clear hBn
            have P0 := Lib.hid pn
            have S0 := Lib.hid sn
            obtain ⟨lp, cp, fp⟩ := pn
            obtain ⟨ls, cs, fs⟩ := sn
            go_wp2_with fail
            refine (sweptW _).mono ?_
            rintro e w9 ⟨rfl, hb9⟩
            go_wp2
            go_ret
            exact ⟨rfl, hBx.trans (hb9.mono hBx.size)⟩
          · have HEl := Lib.hid (fun W k1 k2 k3 => cBB hel (q5AreElbowsW A B A1 T P E n cap m cb n1 cap1 c lo hi W k1 k2 k3 hn hm hn1 hnL hmL.2 hlen3 (Lib.hid HTv.out.pts) HPv))
            have hoE := Tk.okE_of hel
            clear hel
            obtain rfl : n1 = m := by have := hoE.len; have := hn1.out; have := hm.out; omega
            have hD : Hid (TkD T P E c lo hi n n1) := ⟨hn.out, hm.out, hn1.out, hmL, HTv.out, HPv.out, hoE⟩
            clear hoE
            go_wp2_with fail
            refine (HEl.out _ (HA.out.below hBx (Nat.le_refl _)) (HB.out.below hBx (Nat.le_refl _)) (show RdI _ A1 E from HE.out.below hBx (Nat.le_refl _))).mono ?_
            rintro e w4 ⟨rfl, hb4⟩
            have pn := P0.out.below hb4 P0.out.lt
            have sn := S0.out.below hb4 S0.out.lt
            have hBn := hBx.trans (hb4.mono hBx.size)
            clear P0 S0 hBx hb4 lp cp fp ls cs fs
            have hBx := hBn
            clear hBn
            have P0 := Lib.hid pn
            have S0 := Lib.hid sn
            obtain ⟨lp, cp, fp⟩ := pn
            obtain ⟨ls, cs, fs⟩ := sn
            by_cases hr1 : r < 0
            · skip
              go_wp2_with fail
              refine (sweptW _).mono ?_
              rintro e w9 ⟨rfl, hb9⟩
              go_wp2
              go_ret
              exact ⟨rfl, hBx.trans (hb9.mono hBx.size)⟩
            · by_cases hr2 : 10000 ≤ r
              · skip
                go_wp2_with fail
                refine (sweptW _).mono ?_
                rintro e w9 ⟨rfl, hb9⟩
                go_wp2
                go_ret
                exact ⟨rfl, hBx.trans (hb9.mono hBx.size)⟩
              · obtain ⟨TR, hTR⟩ : ∃ x, trn n c E n1 = x := ⟨_, rfl⟩
                obtain ⟨N, hN⟩ : ∃ x, Tk.swp T P E n1 = x := ⟨_, rfl⟩
                obtain ⟨a, ha⟩ : ∃ x, Pl.area P = x := ⟨_, rfl⟩
                obtain ⟨ci, hci⟩ : ∃ x, Pl.area T = x := ⟨_, rfl⟩
                have hT1 := Lib.hid (fun W k1 k2 k3 => cTup hTR rfl (kTurnsW A B A1 T P E n cap n1 cb cap1 c lo hi W k1 k2 k3 hD))
                have hT2 := Lib.hid (fun W k1 k2 k3 => cTup hN rfl (kSweepW A B A1 T P E n cap n1 cb cap1 c lo hi W k1 k2 k3 hD))
                have hT3 := Lib.hid (fun W (k : Rd 2 W B (P.map ptrow)) => cTup (show (if Pl.ok P = true then Pl.area P else 0) = a by rw [hok.out]; exact ha) (show (if Pl.ok P = true then (0 : Int) else 20) = 0 by rw [hok.out]; rfl) (ctwW B n1 cb P W k hm (by omega)))
                have hT4 := Lib.hid (fun W k => cTup hci rfl (kAreaW A T n cap W k hn hnL (Lib.hid HTv.out.pts)))
                have hNeq : N = a - Tk.crs T E E.length := by rw [← hN, ← ha, hn1.out]; exact Tk.swp_eq hD.out.o.len (by have := hn1.out; omega)
                have hcb := Tk.crs_bd hD.out.o HTv.out.pts E.length (Nat.le_refl _)
                have hab : -400000 ≤ a ∧ a ≤ 400000 := by
                  have := Pl.sumTo_bd HPv.out P.length (Nat.le_refl _)
                  unfold Pl.area at ha
                  have := hm.out
                  omega
                have hNb : -1000000 ≤ N ∧ N ≤ 1000000 := by have := hn1.out; omega
                have hTurn : Hid (TR = 1 → N = a - ci) := fun e => by
                  have e1 : trn n c E n1 = 1 := hTR.trans e
                  unfold trn at e1
                  split at e1
                  · omega
                  · have hc1 : c = 1 := by have := HTv.out.cl; omega
                    rw [hNeq, ← hci]
                    rw [hn1.out, hn.out] at e1
                    rw [Tk.on_eq hD.out.o hc1 (by have := hn.out; omega) e1]
                clear hTR hN ha hci hNeq hcb HEl hD hok HTv HPv HV HF hFar hChk
                go_wp2_with fail
                refine (hT1.out _ (HA.out.below hBx (Nat.le_refl _)) (HB.out.below hBx (Nat.le_refl _)) (show RdI _ A1 E from HE.out.below hBx (Nat.le_refl _))).mono ?_
                rintro e w5 ⟨rfl, hb5⟩
                have pn := P0.out.below hb5 P0.out.lt
                have sn := S0.out.below hb5 S0.out.lt
                have hBn := hBx.trans (hb5.mono hBx.size)
                clear P0 S0 hBx hb5 lp cp fp ls cs fs
                have hBx := hBn
                clear hBn
                have P0 := Lib.hid pn
                have S0 := Lib.hid sn
                obtain ⟨lp, cp, fp⟩ := pn
                obtain ⟨ls, cs, fs⟩ := sn
                go_wp2_with fail
                refine (hT2.out _ (HA.out.below hBx (Nat.le_refl _)) (HB.out.below hBx (Nat.le_refl _)) (show RdI _ A1 E from HE.out.below hBx (Nat.le_refl _))).mono ?_
                rintro e w6 ⟨rfl, hb6⟩
                have pn := P0.out.below hb6 P0.out.lt
                have sn := S0.out.below hb6 S0.out.lt
                have hBn := hBx.trans (hb6.mono hBx.size)
                clear P0 S0 hBx hb6 lp cp fp ls cs fs
                have hBx := hBn
                clear hBn
                have P0 := Lib.hid pn
                have S0 := Lib.hid sn
                obtain ⟨lp, cp, fp⟩ := pn
                obtain ⟨ls, cs, fs⟩ := sn
                go_wp2_with fail
                refine (hT3.out _ (HB.out.below hBx (Nat.le_refl _))).mono ?_
                rintro e w7 ⟨rfl, hb7⟩
                have pn := P0.out.below hb7 P0.out.lt
                have sn := S0.out.below hb7 S0.out.lt
                have hBn := hBx.trans (hb7.mono hBx.size)
                clear P0 S0 hBx hb7 lp cp fp ls cs fs
                have hBx := hBn
                clear hBn
                have P0 := Lib.hid pn
                have S0 := Lib.hid sn
                obtain ⟨lp, cp, fp⟩ := pn
                obtain ⟨ls, cs, fs⟩ := sn
                go_wp2_with fail
                refine (hT4.out _ (HA.out.below hBx (Nat.le_refl _))).mono ?_
                rintro e w8 ⟨rfl, hb8⟩
                have pn := P0.out.below hb8 P0.out.lt
                have sn := S0.out.below hb8 S0.out.lt
                have hBn := hBx.trans (hb8.mono hBx.size)
                clear P0 S0 hBx hb8 lp cp fp ls cs fs
                have hBx := hBn
                clear hBn
                have P0 := Lib.hid pn
                have S0 := Lib.hid sn
                obtain ⟨lp, cp, fp⟩ := pn
                obtain ⟨ls, cs, fs⟩ := sn
                clear hT1 hT2 hT3 hT4
                by_cases ht : TR = 1
                rotate_left
                · have htb : (TR != 1) = true := by simpa using ht
                  clear ht
                  go_wp2_with fail
                  refine (sweptW _).mono ?_
                  rintro e w9 ⟨rfl, hb9⟩
                  go_wp2
                  go_ret
                  exact ⟨rfl, hBx.trans (hb9.mono hBx.size)⟩
                · have htb : (TR != 1) = false := by simp [ht]
                  have hNa := Lib.hid (hTurn.out ht)
                  clear ht hTurn
                  by_cases hq : ci < 0
                  · skip
                    go_wp2_with fail
                    refine (sweptW _).mono ?_
                    rintro e w9 ⟨rfl, hb9⟩
                    go_wp2
                    go_ret
                    exact ⟨rfl, hBx.trans (hb9.mono hBx.size)⟩
                  · replace hq := hq
                    have hq20 := hq
                    clear hq
                    by_cases hq : 9999 < ci
                    · skip
                      go_wp2_with fail
                      refine (sweptW _).mono ?_
                      rintro e w9 ⟨rfl, hb9⟩
                      go_wp2
                      go_ret
                      exact ⟨rfl, hBx.trans (hb9.mono hBx.size)⟩
                    · replace hq := hq
                      have hq22 := hq
                      clear hq
                      by_cases hq : a < 0
                      · skip
                        go_wp2_with fail
                        refine (sweptW _).mono ?_
                        rintro e w9 ⟨rfl, hb9⟩
                        go_wp2
                        go_ret
                        exact ⟨rfl, hBx.trans (hb9.mono hBx.size)⟩
                      · replace hq := hq
                        have hq24 := hq
                        clear hq
                        by_cases hq : 9999 < a
                        · skip
                          go_wp2_with fail
                          refine (sweptW _).mono ?_
                          rintro e w9 ⟨rfl, hb9⟩
                          go_wp2
                          go_ret
                          exact ⟨rfl, hBx.trans (hb9.mono hBx.size)⟩
                        · replace hq := hq
                          have hq26 := hq
                          clear hq
                          have hI : Hid (Wl.InH ci a N r) := ⟨by omega, by omega, hNa.out, by omega⟩
                          have hIE := Wl.inE_bd r N
                          have hw1 : IntKind.i64.wrap (a - 10) = a - 10 := IntWalk.i64_in _ (by omega)
                          have hw2 : IntKind.i64.wrap (a + 10) = a + 10 := IntWalk.i64_in _ (by omega)
                          have hw3 : IntKind.i64.wrap (r + N) = r + N := IntWalk.i64_in _ (by omega)
                          have m1 := Int.lt_tmod_of_pos (r + N) (show (0 : Int) < 10000 by omega)
                          have m2 := Int.tmod_lt_of_pos (r + N) (show (0 : Int) < 10000 by omega)
                          have hw4 : IntKind.i64.wrap ((r + N).tmod 10000) = (r + N).tmod 10000 := IntWalk.i64_in _ (by omega)
                          have hw5 : IntKind.i64.wrap ((r + N).tmod 10000 + 10000) = (r + N).tmod 10000 + 10000 := IntWalk.i64_in _ (by omega)
                          have hw6 : IntKind.i64.wrap (((r + N).tmod 10000 + 10000).tmod 10000) = ((r + N).tmod 10000 + 10000).tmod 10000 := IntWalk.i64_in _ (by unfold Wl.inE at hIE; omega)
                          clear m1 m2 hIE
                          obtain ⟨W8, hW8⟩ : ∃ W8, W8 = (w8.alloc (.cells #[.int .i64 10000, .int .i64 0, .int .i64 0, .int .i64 0, .int .i64 ci, .int .i64 (max 0 (a - 10)), .int .i64 (min 9999 (a + 10)), .int .i64 0] 40)).alloc (.cells #[.int .i64 1, .int .i64 1, .int .i64 1, .int .i64 r, .int .i64 (((r + N).tmod 10000 + 10000).tmod 10000)] 44) := ⟨_, rfl⟩
                          have b8 : Below w8.heap.size w8 W8 := by rw [hW8]; (repeat' (first | (with_reducible exact Below.refl _ _) | (with_reducible assumption) | (with_reducible refine Below.drew ?_) | (with_reducible refine below_drewN ?_ _) | (with_reducible refine Below.setCell ?_ ?_ _) | (with_reducible refine Below.alloc ?_ ?_ _) | (refine Below.trans ?_ (Below.mono (by with_reducible assumption) ?_)) | omega | (exact Below.size (by with_reducible assumption)) | (simp; done) | (simp; omega)))
                          have k8 : Own W8 (w8.heap.size + 1) [.int .i64 1, .int .i64 1, .int .i64 1, .int .i64 r, .int .i64 (((r + N).tmod 10000 + 10000).tmod 10000)] := by rw [hW8]; exact Own.new' _ _ (by simp) rfl
                          have hWK := Lib.hid (show Rd 5 W8 (some ⟨w8.heap.size + 1, 0, none⟩) ((Wl.inK r N).map wkrow) from Own.rd' k8 rfl (by simp [Wl.inK, wkrow]))
                          have hB8 := hBx.trans (b8.mono hBx.size)
                          have hne := Lib.hid (show Wl.trs (Wl.inW ci a) (Wl.inK r N) ≠ [] from fun e => by
                            have := (Wl.in_trs hI.out (a, 0)).2 rfl
                            rw [e] at this; cases this)
                          have hVV := Lib.hid (Wl.in_v hI.out)
                          clear b8 k8 P0 S0 hBx
                          go_wp2_with fail
                          rw [← hW8]
                          clear hW8
                          refine (AreasW (Wl.inW ci a) _ (Wl.inK r N) 1 1 _ hWK.out rfl hVV hne).mono ?_
                          rintro e w10 ⟨A6, cap6, ks, rfl, hk6, hK6, hb6⟩
                          obtain rfl : ks = [a] := keys_only hK6.out (fun y => by
                            rw [List.mem_map]
                            constructor
                            · rintro ⟨t, ht, rfl⟩
                              rw [(Wl.in_trs hI.out t).1 ht]
                            · rintro rfl
                              exact ⟨(y, 0), (Wl.in_trs hI.out _).2 rfl, rfl⟩)
                          have hB10 := hB8.trans (hb6.mono hB8.size)
                          obtain ⟨b6, off6, rfl, hl6, hc6⟩ := Rd.elem (show Rd 1 w10 A6 ([a].map irow) from hk6) (i := 0) (r := irow a) rfl
                          have hd6 : w10.cell? ⟨b6, off6, none⟩ = some (.int .i64 a) := by simpa using hc6 0 _ rfl
                          have haa : (a == a) = true := by simp
                          clear hWK hb6 hk6 hK6 hB8 hc6
                          go_wp2_with fail
                          refine (sweptW _).mono ?_
                          rintro e w11 ⟨rfl, hb11⟩
                          go_wp2
                          go_ret
                          exact ⟨rfl, hB10.trans (hb11.mono hB10.size)⟩
end
end Go.Proofs.YtgmhelclofnpkaaGreat
