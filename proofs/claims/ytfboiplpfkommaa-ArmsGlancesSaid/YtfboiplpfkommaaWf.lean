/- Walks: Best of the program. -/
import Derived.Test.YtfboiplpfkommaaWe
import Derived.Test.YtfboiplpfkommaaWb
import Derived.Test.YtfboiplpfkommaaBestP
namespace Go.Proofs.Ytfboiplpfkommaa
open Go.RowKit

theorem floor55q (n b : Int) (w : World) (h1 : -4000000000000000000 ≤ n) (h2 : n ≤ 4000000000000000000) (h3 : 1 ≤ b) (h4 : b ≤ 4000000000000000000) :
    Calls Try.prog 55 #[.int .i64 n, .int .i64 b] w fun e w' => ∃ q, Hid (q = n / b) ∧ e = .returned (.int .i64 q) ∧ w = w' :=
  (floor55 n b w h1 h2 h3 h4).mono fun _ _ h => ⟨_, rfl, h⟩

theorem abs56f (rn rd den num : Int) (w : World) (h1 : -9223372036854775807 ≤ rn * den - num * rd) (h2 : rn * den - num * rd ≤ 9223372036854775807) :
    Calls Try.prog 56 #[.int .i64 (rn * den - num * rd)] w fun e w' => e = .returned (.int .i64 (far rn rd den num)) ∧ w = w' :=
  abs56 _ _ h1 h2

set_option maxRecDepth 100000 in
set_option maxHeartbeats 2000000 in
theorem best14_core (n d most : Int) (w : World) (hr : Hid (ratB n d = true)) (hm0 : 1 ≤ most) (hm1 : most ≤ 1000000) (hb : Hid (btw most 1 1000000 = true)) (rn rd : Int) (hrn : Hid (redN n d = rn)) (hrd : Hid (redD n d = rd))
    (hrn0 : -1000000 ≤ rn) (hrn1 : rn ≤ 1000000) (hrd0 : 1 ≤ rd) (hrd1 : rd ≤ 1000000) (m : Nat) (hm2 : (m : Int) ≤ most) (hm3 : (m : Int) ≤ rd) (hm4 : (m : Int) = most ∨ (m : Int) = rd)
    (h1 : -1000000 ≤ n) (h2 : n ≤ 1000000) (h3 : 1 ≤ d) (h4 : d ≤ 1000000) :
    Calls Try.prog 14 #[.agg #[.int .i64 n, .int .i64 d], .int .i64 most] w fun e w' => e = .returned (.tuple #[.agg #[.int .i64 (bafter rn rd m).n, .int .i64 (bafter rn rd m).d], .int .i64 0]) ∧ Below w.heap.size w w' := by
  go_enter Try.func14, Try.ntmps14
  go_wp2_with fail
  refine (isRatio52 _ _ _).mono ?_
  rw [hr.out]
  rintro e w1 ⟨rfl, hb1⟩
  (have hz1 := hb1.size; (try simp at hz1); have hc1_0 := fun o => (bcell hb1).1 (w.heap.size) o (by first | omega | (simp; done) | (simp; omega)); have hf1_0 := fun o => (bcell hb1).2 (w.heap.size) o (by first | omega | (simp; done) | (simp; omega)); have : w.heap.size < w1.heap.size := (by first | omega | (simp; done) | (simp; omega)); have : w.heap.size < w1.heap.size + 1 := (by first | omega | (simp; done) | (simp; omega)); have : w.heap.size < w1.heap.size + 2 := (by first | omega | (simp; done) | (simp; omega)); have : w.heap.size < w1.heap.size + 3 := (by first | omega | (simp; done) | (simp; omega)); have hc1_1 := fun o => (bcell hb1).1 (w.heap.size+1) o (by first | omega | (simp; done) | (simp; omega)); have hf1_1 := fun o => (bcell hb1).2 (w.heap.size+1) o (by first | omega | (simp; done) | (simp; omega)); have : w.heap.size+1 < w1.heap.size := (by first | omega | (simp; done) | (simp; omega)); have : w.heap.size+1 < w1.heap.size + 1 := (by first | omega | (simp; done) | (simp; omega)); have : w.heap.size+1 < w1.heap.size + 2 := (by first | omega | (simp; done) | (simp; omega)); have : w.heap.size+1 < w1.heap.size + 3 := (by first | omega | (simp; done) | (simp; omega)))
  go_wp2_with fail
  refine (within53 _ _ _ _).mono ?_
  rw [hb.out]
  rintro e _ ⟨rfl, rfl⟩
  go_wp2_with fail
  refine (reduced54 _ _ _ (by omega) (by omega) (by omega) (by omega)).mono ?_
  rw [hrn.out, hrd.out]
  rintro e w2 ⟨rfl, hb2⟩
  (have hz2 := hb2.size; (try simp at hz2); have hc2_0 := fun o => (bcell hb2).1 (w.heap.size) o (by first | omega | (simp; done) | (simp; omega)); have hf2_0 := fun o => (bcell hb2).2 (w.heap.size) o (by first | omega | (simp; done) | (simp; omega)); have : w.heap.size < w2.heap.size := (by first | omega | (simp; done) | (simp; omega)); have : w.heap.size < w2.heap.size + 1 := (by first | omega | (simp; done) | (simp; omega)); have : w.heap.size < w2.heap.size + 2 := (by first | omega | (simp; done) | (simp; omega)); have : w.heap.size < w2.heap.size + 3 := (by first | omega | (simp; done) | (simp; omega)); have hc2_1 := fun o => (bcell hb2).1 (w.heap.size+1) o (by first | omega | (simp; done) | (simp; omega)); have hf2_1 := fun o => (bcell hb2).2 (w.heap.size+1) o (by first | omega | (simp; done) | (simp; omega)); have : w.heap.size+1 < w2.heap.size := (by first | omega | (simp; done) | (simp; omega)); have : w.heap.size+1 < w2.heap.size + 1 := (by first | omega | (simp; done) | (simp; omega)); have : w.heap.size+1 < w2.heap.size + 2 := (by first | omega | (simp; done) | (simp; omega)); have : w.heap.size+1 < w2.heap.size + 3 := (by first | omega | (simp; done) | (simp; omega)))
  clear hb hr hrn hrd
  go_wp2_with fail
  have hz : w.heap.size + 1 < w2.heap.size := by omega
  have o2 : Own (((w2.setCell ⟨w.heap.size, 0, none⟩ (.int .i64 rn)).setCell ⟨w.heap.size, 1, none⟩ (.int .i64 rd)).alloc (.cells #[.int .i64 0, .int .i64 0] 23)) w2.heap.size [.int .i64 0, .int .i64 0] := Own.new' _ _ (by simp) rfl
  have o0 : Own (w.alloc (.cells #[.int .i64 n, .int .i64 d] 23)) w.heap.size [.int .i64 n, .int .i64 d] := Own.new' _ _ rfl rfl
  have o1 : Own ((w.alloc (.cells #[.int .i64 n, .int .i64 d] 23)).alloc (.cells #[.int .i64 0, .int .i64 0] 23)) (w.heap.size + 1) [.int .i64 0, .int .i64 0] := Own.new' _ _ (by simp) rfl
  have o0' : Own (((w2.setCell ⟨w.heap.size, 0, none⟩ (.int .i64 rn)).setCell ⟨w.heap.size, 1, none⟩ (.int .i64 rd)).alloc (.cells #[.int .i64 0, .int .i64 0] 23)) w.heap.size [.int .i64 rn, .int .i64 rd] :=
    (((((o0.alloc _).below hb1 (by simp; omega)).below hb2 (by omega)).set 0 (by simp) _).set 1 (by simp) _).alloc _
  have o1' : Own (((w2.setCell ⟨w.heap.size, 0, none⟩ (.int .i64 rn)).setCell ⟨w.heap.size, 1, none⟩ (.int .i64 rd)).alloc (.cells #[.int .i64 0, .int .i64 0] 23)) (w.heap.size + 1) [.int .i64 0, .int .i64 0] :=
    ((((o1.below hb1 (by simp)).below hb2 (by omega)).setOther (by simp) _).setOther (by simp) _).alloc _
  have oB : Below w.heap.size w (((w2.setCell ⟨w.heap.size, 0, none⟩ (.int .i64 rn)).setCell ⟨w.heap.size, 1, none⟩ (.int .i64 rd)).alloc (.cells #[.int .i64 0, .int .i64 0] 23)) := by (repeat' (first | (with_reducible exact Below.refl _ _) | (with_reducible assumption) | (with_reducible refine Below.drew ?_) | (with_reducible refine below_drewN ?_ _) | (with_reducible refine Below.setCell ?_ ?_ _) | (with_reducible refine Below.alloc ?_ ?_ _) | (refine Below.trans ?_ (Below.mono (by with_reducible assumption) ?_)) | omega | (exact Below.size (by with_reducible assumption)) | (simp; done) | (simp; omega)))
  go_loopw [7, 8] (fun f den wr => ∃ k : Nat, k ≤ m ∧ den = .int .i64 (k + 1) ∧ f = .int .i64 (bafter rn rd k).f ∧ Own wr w.heap.size [.int .i64 rn, .int .i64 rd] ∧ Own wr (w.heap.size + 1) [.int .i64 0, .int .i64 0] ∧ Own wr w2.heap.size [.int .i64 (bafter rn rd k).n, .int .i64 (bafter rn rd k).d] ∧ Below w.heap.size w wr) (fun _ den _ => m + 1 - (intOf den).toNat)
  case atStart => exact ⟨0, by omega, rfl, rfl, o0', o1', o2, oB⟩
  case round =>
    clear o0 o1 o0' o1' o2 oB hb1 hb2 hz1 hz2 hc1_0 hf1_0 hc1_1 hf1_1 hc2_0 hf2_0 hc2_1 hf2_1
    obtain ⟨k, hk, rfl, rfl, t0, t1, t2, hbw⟩ := hrel
    have hbd := bafter_bd rn rd hrd0 k
    obtain ⟨l0, c0, f0⟩ := t0
    obtain ⟨l1, c1, f1⟩ := t1
    obtain ⟨l2, c2, f2⟩ := t2
    by_cases hlt : k < m
    · have hp := @mul_bd rn (k + 1) 1000000 1000000 (by omega) (by omega) (by omega) (by omega) (by omega) (by omega)
      have hp1 := hp.1
      have hp2 := hp.2
      clear hp
      obtain ⟨wo, rfl⟩ : ∃ wo : World, wo = wr := ⟨_, rfl⟩
      rcases (by omega : most ≤ rd ∨ rd < most) with hmr | hmr
      all_goals
        go_wp2_with fail
        refine (floor55q _ _ _ (by omega) (by omega) (by omega) (by omega)).mono ?_
        rintro e _ ⟨low, hlow, rfl, rfl⟩
        have hbd0 : BB rd (k + 1) (bafter rn rd k) := hbd.mono (by omega)
        have hlow1 := @cand_bd rn rd (k + 1) low 0 hrd0 hlow.out (by omega) (by omega)
        have hlow2 : -3000000000000 ≤ low ∧ low ≤ 3000000000000 := by
          rw [hlow.out]
          have e1 := Int.mul_ediv_add_emod (rn * (k + 1)) rd
          have e2 : (rn * (k + 1) / rd).natAbs ≤ (rn * (k + 1)).natAbs := Int.natAbs_ediv_le_natAbs _ _
          omega
        go_wp2_with fail
        have t0 : Own wo w.heap.size [.int .i64 rn, .int .i64 rd] := ⟨l0, c0, f0⟩
        have t1 : Own wo (w.heap.size + 1) [.int .i64 0, .int .i64 0] := ⟨l1, c1, f1⟩
        have t2 : Own wo w2.heap.size [.int .i64 (bafter rn rd k).n, .int .i64 (bafter rn rd k).d] := ⟨l2, c2, f2⟩
        clear l0 c0 f0 l1 c1 f1 l2 c2 f2
        go_loopw [7, 10] (fun f num wr => ∃ j sn sd sf : Int, 0 ≤ j ∧ j ≤ 2 ∧ num = .int .i64 (low + j) ∧ f = .int .i64 sf ∧ Hid ((⟨sn, sd, sf⟩ : BS) = binner rn rd (k + 1) low j (bafter rn rd k)) ∧ Own wr w.heap.size [.int .i64 rn, .int .i64 rd] ∧ Own wr (w.heap.size + 1) [.int .i64 0, .int .i64 0] ∧ Own wr w2.heap.size [.int .i64 sn, .int .i64 sd] ∧ Below w.heap.size w wr) (fun _ num _ => (low + 2 - intOf num).toNat)
        case atStart => exact ⟨0, _, _, _, by omega, by omega, by rw [Int.add_zero], rfl, rfl, t0, t1, t2, hbw⟩
        case round =>
          clear t0 t1 t2 hbw
          obtain ⟨j, sn, sd, sf, hj0, hj2, rfl, rfl, hs, ⟨l0, c0, f0⟩, ⟨l1, c1, f1⟩, ⟨l2, c2, f2⟩, hbw⟩ := hrel
          have hB := hbd0.inner (j := j) (by omega) hrd0 hlow.out hj0 hj2
          rw [← hs.out] at hB
          obtain ⟨b0, b1, b3, b4⟩ := hB
          simp only at b0 b1 b3 b4
          by_cases hj : j ≤ 1
          · obtain ⟨g1, g2, g3, g4⟩ := cand_bd hrd0 hlow.out hj0 hj
            have hp := @mul_bd (far rn rd (k + 1) (low + j)) sd 1000000 1000000 (by omega) (by omega) (by omega) (by omega) (by omega) (by omega)
            have hp3 := hp.1
            have hp4 := hp.2
            have hq := @mul_bd sf (k + 1) 1000000 1000000 (by omega) (by omega) (by omega) (by omega) (by omega) (by omega)
            have hq3 := hq.1
            have hq4 := hq.2
            clear hp hq
            have hst := Lib.hid (binner_succ rn rd (k + 1) low j (bafter rn rd k) hj0 hj)
            by_cases hz0 : sd = 0
            · subst hz0
              have hst' : Hid ((⟨low + j, k + 1, far rn rd (k + 1) (low + j)⟩ : BS) = binner rn rd (k + 1) low (j + 1) (bafter rn rd k)) := by
                rw [hst.out, ← hs.out, bstep_t (.inl rfl)]; rfl
              clear hst hs
              go_wp2_with (first | (go_at_call 56; refine (abs56f rn rd (k + 1) (low + j) _ (by omega) (by omega)).mono ?_; rintro e _ ⟨rfl, rfl⟩))
              go_roundw
              case rel => exact ⟨j + 1, _, _, _, by omega, by omega, by rw [Int.add_assoc], rfl, hst', ((Own.mk l0 c0 f0).setOther (by simp; omega) _).setOther (by simp; omega) _, ((Own.mk l1 c1 f1).setOther (by simp; omega) _).setOther (by simp; omega) _, ((Own.mk l2 c2 f2).set 0 (by simp) _).set 1 (by simp) _, by (repeat' (first | (with_reducible exact Below.refl _ _) | (with_reducible assumption) | (with_reducible refine Below.drew ?_) | (with_reducible refine below_drewN ?_ _) | (with_reducible refine Below.setCell ?_ ?_ _) | (with_reducible refine Below.alloc ?_ ?_ _) | (refine Below.trans ?_ (Below.mono (by with_reducible assumption) ?_)) | omega | (exact Below.size (by with_reducible assumption)) | (simp; done) | (simp; omega)))⟩
              case measure => simp only [intOf]; omega
            · have hz1 : 1 ≤ sd := by omega
              have hz2 : (sd == 0) = false := by simp; omega
              by_cases hlt2 : far rn rd (k + 1) (low + j) * sd < sf * (k + 1)
              · have hst' : Hid ((⟨low + j, k + 1, far rn rd (k + 1) (low + j)⟩ : BS) = binner rn rd (k + 1) low (j + 1) (bafter rn rd k)) := by
                  rw [hst.out, ← hs.out, bstep_t (.inr hlt2)]; rfl
                clear hst hs
                go_wp2_with (first | (go_at_call 56; refine (abs56f rn rd (k + 1) (low + j) _ (by omega) (by omega)).mono ?_; rintro e _ ⟨rfl, rfl⟩))
                go_roundw
                case rel => exact ⟨j + 1, _, _, _, by omega, by omega, by rw [Int.add_assoc], rfl, hst', ((Own.mk l0 c0 f0).setOther (by simp; omega) _).setOther (by simp; omega) _, ((Own.mk l1 c1 f1).setOther (by simp; omega) _).setOther (by simp; omega) _, ((Own.mk l2 c2 f2).set 0 (by simp) _).set 1 (by simp) _, by (repeat' (first | (with_reducible exact Below.refl _ _) | (with_reducible assumption) | (with_reducible refine Below.drew ?_) | (with_reducible refine below_drewN ?_ _) | (with_reducible refine Below.setCell ?_ ?_ _) | (with_reducible refine Below.alloc ?_ ?_ _) | (refine Below.trans ?_ (Below.mono (by with_reducible assumption) ?_)) | omega | (exact Below.size (by with_reducible assumption)) | (simp; done) | (simp; omega)))⟩
                case measure => simp only [intOf]; omega
              · have hst' : Hid ((⟨sn, sd, sf⟩ : BS) = binner rn rd (k + 1) low (j + 1) (bafter rn rd k)) := by
                  rw [hst.out, ← hs.out, bstep_f hz0 (by omega)]; rfl
                clear hst hs
                go_wp2_with (first | (go_at_call 56; refine (abs56f rn rd (k + 1) (low + j) _ (by omega) (by omega)).mono ?_; rintro e _ ⟨rfl, rfl⟩))
                go_roundw
                case rel => exact ⟨j + 1, _, _, _, by omega, by omega, by rw [Int.add_assoc], rfl, hst', Own.mk l0 c0 f0, Own.mk l1 c1 f1, Own.mk l2 c2 f2, hbw⟩
                case measure => simp only [intOf]; omega
          · have hj1 : j = 2 := by omega
            subst hj1
            go_wp2
            go_roundw
            case rel =>
              have e : (⟨sn, sd, sf⟩ : BS) = bafter rn rd (k + 1) := by rw [hs.out, hlow.out]; rfl
              have e1 : sn = (bafter rn rd (k + 1)).n := congrArg BS.n e
              have e2 : sd = (bafter rn rd (k + 1)).d := congrArg BS.d e
              have e3 : sf = (bafter rn rd (k + 1)).f := congrArg BS.f e
              exact ⟨k + 1, by omega, by go_num, by rw [← e3], Own.mk l0 c0 f0, Own.mk l1 c1 f1, by rw [← e1, ← e2]; exact Own.mk l2 c2 f2, hbw⟩
            case measure => simp only [intOf]; omega
    · have hkm : k = m := by omega
      subst hkm
      rcases (by omega : most ≤ rd ∨ rd < most) with hmr | hmr
      all_goals
        go_wp2
        refine bodyPost_ret (v := .tuple #[.agg #[.int .i64 (bafter rn rd k).n, .int .i64 (bafter rn rd k).d], .int .i64 0]) (by simp [results, Try.results14, go_sem, *]) rfl ⟨rfl, ?_⟩
        (repeat' (first | (with_reducible exact Below.refl _ _) | (with_reducible assumption) | (with_reducible refine Below.drew ?_) | (with_reducible refine below_drewN ?_ _) | (with_reducible refine Below.setCell ?_ ?_ _) | (with_reducible refine Below.alloc ?_ ?_ _) | (refine Below.trans ?_ (Below.mono (by with_reducible assumption) ?_)) | omega | (exact Below.size (by with_reducible assumption)) | (simp; done) | (simp; omega)))

theorem best14 (n d most : Int) (w : World) :
    Calls Try.prog 14 #[.agg #[.int .i64 n, .int .i64 d], .int .i64 most] w fun e w' => e = .returned (.tuple #[.agg #[.int .i64 (bestV n d most).n, .int .i64 (bestV n d most).d], .int .i64 (bestV n d most).e]) ∧ Below w.heap.size w w' := by
  cases hr : ratB n d
  · have hv : bestV n d most = ⟨0, 0, 10⟩ := by simp [bestV, hr]
    rw [hv]; clear hv
    go_enter Try.func14, Try.ntmps14
    go_wp2_with fail
    refine (isRatio52 _ _ _).mono ?_
    rintro e w1 ⟨rfl, hb1⟩
    (have hz1 := hb1.size; (try simp at hz1); have hc1_0 := fun o => (bcell hb1).1 (w.heap.size) o (by first | omega | (simp; done) | (simp; omega)); have hf1_0 := fun o => (bcell hb1).2 (w.heap.size) o (by first | omega | (simp; done) | (simp; omega)); have : w.heap.size < w1.heap.size := (by first | omega | (simp; done) | (simp; omega)); have : w.heap.size < w1.heap.size + 1 := (by first | omega | (simp; done) | (simp; omega)); have : w.heap.size < w1.heap.size + 2 := (by first | omega | (simp; done) | (simp; omega)); have : w.heap.size < w1.heap.size + 3 := (by first | omega | (simp; done) | (simp; omega)); have hc1_1 := fun o => (bcell hb1).1 (w.heap.size+1) o (by first | omega | (simp; done) | (simp; omega)); have hf1_1 := fun o => (bcell hb1).2 (w.heap.size+1) o (by first | omega | (simp; done) | (simp; omega)); have : w.heap.size+1 < w1.heap.size := (by first | omega | (simp; done) | (simp; omega)); have : w.heap.size+1 < w1.heap.size + 1 := (by first | omega | (simp; done) | (simp; omega)); have : w.heap.size+1 < w1.heap.size + 2 := (by first | omega | (simp; done) | (simp; omega)); have : w.heap.size+1 < w1.heap.size + 3 := (by first | omega | (simp; done) | (simp; omega)))
    go_wp2
    refine bodyPost_ret (v := .tuple #[.agg #[.int .i64 0, .int .i64 0], .int .i64 10]) (by simp [results, Try.results14, go_sem, *]) rfl ⟨rfl, ?_⟩
    (repeat' (first | (with_reducible exact Below.refl _ _) | (with_reducible assumption) | (with_reducible refine Below.drew ?_) | (with_reducible refine below_drewN ?_ _) | (with_reducible refine Below.setCell ?_ ?_ _) | (with_reducible refine Below.alloc ?_ ?_ _) | (refine Below.trans ?_ (Below.mono (by with_reducible assumption) ?_)) | omega | (exact Below.size (by with_reducible assumption)) | (simp; done) | (simp; omega)))
  · obtain ⟨⟨h1, h2⟩, h3, h4⟩ := ratB_iff.1 hr
    cases hb : btw most 1 1000000
    · have hv : bestV n d most = ⟨0, 0, 1⟩ := by simp [bestV, hr, hb]
      rw [hv]; clear hv
      go_enter Try.func14, Try.ntmps14
      go_wp2_with fail
      refine (isRatio52 _ _ _).mono ?_
      rintro e w1 ⟨rfl, hb1⟩
      (have hz1 := hb1.size; (try simp at hz1); have hc1_0 := fun o => (bcell hb1).1 (w.heap.size) o (by first | omega | (simp; done) | (simp; omega)); have hf1_0 := fun o => (bcell hb1).2 (w.heap.size) o (by first | omega | (simp; done) | (simp; omega)); have : w.heap.size < w1.heap.size := (by first | omega | (simp; done) | (simp; omega)); have : w.heap.size < w1.heap.size + 1 := (by first | omega | (simp; done) | (simp; omega)); have : w.heap.size < w1.heap.size + 2 := (by first | omega | (simp; done) | (simp; omega)); have : w.heap.size < w1.heap.size + 3 := (by first | omega | (simp; done) | (simp; omega)); have hc1_1 := fun o => (bcell hb1).1 (w.heap.size+1) o (by first | omega | (simp; done) | (simp; omega)); have hf1_1 := fun o => (bcell hb1).2 (w.heap.size+1) o (by first | omega | (simp; done) | (simp; omega)); have : w.heap.size+1 < w1.heap.size := (by first | omega | (simp; done) | (simp; omega)); have : w.heap.size+1 < w1.heap.size + 1 := (by first | omega | (simp; done) | (simp; omega)); have : w.heap.size+1 < w1.heap.size + 2 := (by first | omega | (simp; done) | (simp; omega)); have : w.heap.size+1 < w1.heap.size + 3 := (by first | omega | (simp; done) | (simp; omega)))
      go_wp2_with (first | (go_at_call 53; refine (within53 _ _ _ _).mono ?_; rintro e w1 ⟨rfl, rfl⟩))
      refine bodyPost_ret (v := .tuple #[.agg #[.int .i64 0, .int .i64 0], .int .i64 1]) (by simp [results, Try.results14, go_sem, *]) rfl ⟨rfl, ?_⟩
      (repeat' (first | (with_reducible exact Below.refl _ _) | (with_reducible assumption) | (with_reducible refine Below.drew ?_) | (with_reducible refine below_drewN ?_ _) | (with_reducible refine Below.setCell ?_ ?_ _) | (with_reducible refine Below.alloc ?_ ?_ _) | (refine Below.trans ?_ (Below.mono (by with_reducible assumption) ?_)) | omega | (exact Below.size (by with_reducible assumption)) | (simp; done) | (simp; omega)))
    · obtain ⟨h5, h6⟩ := btw_iff.1 hb
      have e1 := redD_pos n d h1
      have e2 := redD_le n d h1
      have e3 := redN_le n d 1000000 h1 h3 h4
      have hv : bestV n d most = ⟨(bafter (redN n d) (redD n d) (min most (redD n d)).toNat).n, (bafter (redN n d) (redD n d) (min most (redD n d)).toNat).d, 0⟩ := by simp [bestV, hr, hb]
      rw [hv]
      exact best14_core n d most w hr h5 h6 hb _ _ rfl rfl e3.1 e3.2 e1 (by omega) _ (by omega) (by omega) (by omega) h3 h4 h1 h2

end Go.Proofs.Ytfboiplpfkommaa
