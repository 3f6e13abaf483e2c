/- Walks: Best of the reference. -/
import Derived.Test.YtfboiplpfkommaaWe
import Derived.Test.YtfboiplpfkommaaWb
import Derived.Test.YtfboiplpfkommaaBestP
namespace Go.Proofs.Ytfboiplpfkommaa
open Go.RowKit

theorem floor57q (n b : Int) (w : World) (h1 : -4000000000000000000 ≤ n) (h2 : n ≤ 4000000000000000000) (h3 : 1 ≤ b) (h4 : b ≤ 4000000000000000000) :
    Calls Try.prog 57 #[.int .i64 n, .int .i64 b] w fun e w' => ∃ q, Hid (q = n / b) ∧ e = .returned (.int .i64 q) ∧ w = w' :=
  (floor57 n b w h1 h2 h3 h4).mono fun _ _ h => ⟨_, rfl, h⟩

/-- Bounds that a comparison of two candidates wants. -/
theorem near_bd {pn pd qn qd rn rd k : Int} (hk : k ≤ 1000000) (hrn : -1000000 ≤ rn) (hrn' : rn ≤ 1000000) (hrd0 : 1 ≤ rd) (hrd1 : rd ≤ 1000000)
    (p : CB rn rd k ⟨pn, pd⟩) (q : CB rn rd k ⟨qn, qd⟩) :
    ((-2000000000000 ≤ pn * rd ∧ pn * rd ≤ 2000000000000) ∧ (-2000000000000 ≤ rn * pd ∧ rn * pd ≤ 2000000000000) ∧ (-2000000000000 ≤ qn * rd ∧ qn * rd ≤ 2000000000000) ∧ (-2000000000000 ≤ rn * qd ∧ rn * qd ≤ 2000000000000)) ∧
    (-1000000000000 ≤ ((pn * rd - rn * pd).natAbs : Int) * qd ∧ ((pn * rd - rn * pd).natAbs : Int) * qd ≤ 1000000000000) ∧ (-1000000000000 ≤ ((qn * rd - rn * qd).natAbs : Int) * pd ∧ ((qn * rd - rn * qd).natAbs : Int) * pd ≤ 1000000000000) := by
  obtain ⟨p0, p1, p2, p3⟩ := p
  obtain ⟨q0, q1, q2, q3⟩ := q
  simp only at p0 p1 p2 p3 q0 q1 q2 q3
  have e1 := @mul_bd rn pd 1000000 1000000 (by omega) (by omega) (by omega) (by omega) (by omega) (by omega)
  have e2 := @mul_bd rn qd 1000000 1000000 (by omega) (by omega) (by omega) (by omega) (by omega) (by omega)
  have e3 := @mul_bd ((pn * rd - rn * pd).natAbs : Int) qd 1000000 1000000 (by omega) (by omega) (by omega) (by omega) (by omega) (by omega)
  have e4 := @mul_bd ((qn * rd - rn * qd).natAbs : Int) pd 1000000 1000000 (by omega) (by omega) (by omega) (by omega) (by omega) (by omega)
  omega

set_option maxRecDepth 100000 in
set_option maxHeartbeats 2000000 in
theorem best15_core (rn rd most : Int) (w : World) (hr : Hid (ratB rn rd = true)) (hm0 : 1 ≤ most) (hm1 : most ≤ 999999) (hb : Hid (btw most 1 1000000 = true))
    (hrn0 : -1000000 ≤ rn) (hrn1 : rn ≤ 1000000) (hrd0 : 1 ≤ rd) (hrd1 : rd ≤ 1000000) (m : Nat) (hm2 : (m : Int) = most) :
    Calls Try.prog 15 #[.agg #[.int .i64 rn, .int .i64 rd], .int .i64 most] w fun e w' => e = .returned (.tuple #[.agg #[.int .i64 (redN (cafter rn rd m).n (cafter rn rd m).d), .int .i64 (redD (cafter rn rd m).n (cafter rn rd m).d)], .int .i64 0]) ∧ Below w.heap.size w w' := by
  subst hm2
  go_enter Try.func15, Try.ntmps15
  go_wp2_with fail
  refine (isRatio16 _ _ _).mono ?_
  rw [hr.out]
  rintro e w1 ⟨rfl, hb1⟩
  (have hz1 := hb1.size; (try simp at hz1); have hc1_0 := fun o => (bcell hb1).1 (w.heap.size) o (by first | omega | (simp; done) | (simp; omega)); have hf1_0 := fun o => (bcell hb1).2 (w.heap.size) o (by first | omega | (simp; done) | (simp; omega)); have : w.heap.size < w1.heap.size := (by first | omega | (simp; done) | (simp; omega)); have : w.heap.size < w1.heap.size + 1 := (by first | omega | (simp; done) | (simp; omega)); have : w.heap.size < w1.heap.size + 2 := (by first | omega | (simp; done) | (simp; omega)); have : w.heap.size < w1.heap.size + 3 := (by first | omega | (simp; done) | (simp; omega)); have hc1_1 := fun o => (bcell hb1).1 (w.heap.size+1) o (by first | omega | (simp; done) | (simp; omega)); have hf1_1 := fun o => (bcell hb1).2 (w.heap.size+1) o (by first | omega | (simp; done) | (simp; omega)); have : w.heap.size+1 < w1.heap.size := (by first | omega | (simp; done) | (simp; omega)); have : w.heap.size+1 < w1.heap.size + 1 := (by first | omega | (simp; done) | (simp; omega)); have : w.heap.size+1 < w1.heap.size + 2 := (by first | omega | (simp; done) | (simp; omega)); have : w.heap.size+1 < w1.heap.size + 3 := (by first | omega | (simp; done) | (simp; omega)))
  go_wp2_with fail
  refine (within26 _ _ _ _).mono ?_
  rw [hb.out]
  rintro e _ ⟨rfl, rfl⟩
  clear hb hr
  go_wp2_with fail
  refine (floor57 _ _ _ (by omega) (by omega) (by omega) (by omega)).mono ?_
  rintro e _ ⟨rfl, rfl⟩
  go_wp2_with fail
  have o0 : Own (w.alloc (.cells #[.int .i64 rn, .int .i64 rd] 23)) w.heap.size [.int .i64 rn, .int .i64 rd] := Own.new' _ _ rfl rfl
  have o1 : Own ((w.alloc (.cells #[.int .i64 rn, .int .i64 rd] 23)).alloc (.cells #[.int .i64 0, .int .i64 0] 23)) (w.heap.size + 1) [.int .i64 0, .int .i64 0] := Own.new' _ _ (by simp) rfl
  have o0' : Own (w1.alloc (.cells #[.int .i64 (rn / rd), .int .i64 1] 23)) w.heap.size [.int .i64 rn, .int .i64 rd] := ((o0.alloc _).below hb1 (by simp; omega)).alloc _
  have o1' : Own (w1.alloc (.cells #[.int .i64 (rn / rd), .int .i64 1] 23)) (w.heap.size + 1) [.int .i64 0, .int .i64 0] := (o1.below hb1 (by simp)).alloc _
  have o2 : Own (w1.alloc (.cells #[.int .i64 (rn / rd), .int .i64 1] 23)) w1.heap.size [.int .i64 (rn / rd), .int .i64 1] := Own.new' _ _ rfl rfl
  have oB : Below w.heap.size w (w1.alloc (.cells #[.int .i64 (rn / rd), .int .i64 1] 23)) := by (repeat' (first | (with_reducible exact Below.refl _ _) | (with_reducible assumption) | (with_reducible refine Below.drew ?_) | (with_reducible refine below_drewN ?_ _) | (with_reducible refine Below.setCell ?_ ?_ _) | (with_reducible refine Below.alloc ?_ ?_ _) | (refine Below.trans ?_ (Below.mono (by with_reducible assumption) ?_)) | omega | (exact Below.size (by with_reducible assumption)) | (simp; done) | (simp; omega)))
  have hw1 : w.heap.size + 1 < w1.heap.size := by omega
  go_loopw [7] (fun den wr => ∃ k : Nat, k ≤ m ∧ den = .int .i64 (k + 1) ∧ Own wr w.heap.size [.int .i64 rn, .int .i64 rd] ∧ Own wr (w.heap.size + 1) [.int .i64 0, .int .i64 0] ∧ Own wr w1.heap.size [.int .i64 (cafter rn rd k).n, .int .i64 (cafter rn rd k).d] ∧ Below w.heap.size w wr) (fun den _ => m + 1 - (intOf den).toNat)
  case atStart => exact ⟨0, by omega, rfl, o0', o1', o2, oB⟩
  case round =>
    clear o0 o1 o0' o1' o2 oB hb1 hz1 hc1_0 hf1_0 hc1_1 hf1_1
    obtain ⟨k, hk, rfl, t0, t1, t2, hbw⟩ := hrel
    have hbd := cafter_bd rn rd hrd0 k
    by_cases hlt : k < m
    · have hp := @mul_bd rn (k + 1) 1000000 1000000 (by omega) (by omega) (by omega) (by omega) (by omega) (by omega)
      have hp1 := hp.1
      have hp2 := hp.2
      clear hp
      obtain ⟨l0, c0, f0⟩ := t0
      obtain ⟨wo, rfl⟩ : ∃ wo : World, wo = wr := ⟨_, rfl⟩
      go_wp2_with fail
      refine (floor57q _ _ _ (by omega) (by omega) (by omega) (by omega)).mono ?_
      rintro e _ ⟨low, hlow, rfl, rfl⟩
      have hlow2 : -3000000000000 ≤ low ∧ low ≤ 3000000000000 := by
        rw [hlow.out]
        have e2 : (rn * (k + 1) / rd).natAbs ≤ (rn * (k + 1)).natAbs := Int.natAbs_ediv_le_natAbs _ _
        omega
      go_wp2_with fail
      have t0 : Own wo w.heap.size [.int .i64 rn, .int .i64 rd] := ⟨l0, c0, f0⟩
      clear l0 c0 f0
      go_loopw [9] (fun num wr => ∃ j sn sd : Int, 0 ≤ j ∧ j ≤ 2 ∧ num = .int .i64 (low + j) ∧ Hid ((⟨sn, sd⟩ : CS) = cinner rn rd (k + 1) low j (cafter rn rd k)) ∧ Own wr w.heap.size [.int .i64 rn, .int .i64 rd] ∧ Own wr (w.heap.size + 1) [.int .i64 0, .int .i64 0] ∧ Own wr w1.heap.size [.int .i64 sn, .int .i64 sd] ∧ Below w.heap.size w wr) (fun num _ => (low + 2 - intOf num).toNat)
      case atStart => exact ⟨0, _, _, by omega, by omega, by rw [Int.add_zero], rfl, t0, t1, t2, hbw⟩
      case round =>
        clear t0 t1 t2 hbw
        obtain ⟨j, sn, sd, hj0, hj2, rfl, hs, t0, t1, t2, hbw⟩ := hrel
        have hB := hbd.inner (j := j) (by omega) hrd0 hlow.out hj0 hj2
        rw [← hs.out] at hB
        by_cases hj : j ≤ 1
        · obtain ⟨g1, g2, g3, g4⟩ := cand_bd hrd0 hlow.out hj0 hj
          have hC : CB rn rd (k + 1) ⟨low + j, k + 1⟩ := ⟨by show 1 ≤ (k : Int) + 1; omega, by show (k : Int) + 1 ≤ k + 1; omega, by show (low + j) * rd - rn * (k + 1) ≤ rd; omega, by show -rd ≤ (low + j) * rd - rn * (k + 1); omega⟩
          obtain ⟨⟨⟨a1, a2⟩, ⟨a3, a4⟩, ⟨a5, a6⟩, ⟨a7, a8⟩⟩, ⟨a9, a10⟩, ⟨a11, a12⟩⟩ := near_bd (by omega) hrn0 hrn1 hrd0 hrd1 hC hB
          have hst := Lib.hid (cinner_succ rn rd (k + 1) low j (cafter rn rd k) hj0 hj)
          have hlw : w1.heap.size < wr.heap.size := t2.lt
          obtain ⟨l0, c0, f0⟩ := t0
          obtain ⟨l2, c2, f2⟩ := t2
          go_wp2_with fail
          have t0 : Own wr w.heap.size [.int .i64 rn, .int .i64 rd] := ⟨l0, c0, f0⟩
          have t2 : Own wr w1.heap.size [.int .i64 sn, .int .i64 sd] := ⟨l2, c2, f2⟩
          clear l0 c0 f0 c2 f2
          have t3 : Own (wr.alloc (.cells #[.int .i64 (low + j), .int .i64 (k + 1)] 23)) wr.heap.size [.int .i64 (low + j), .int .i64 (k + 1)] := Own.new' _ _ rfl rfl
          cases hn : nearB (low + j) (k + 1) sn sd rn rd
          · have hn' := Lib.hid hn
            clear hn
            refine (nearer18 _ _ _ _ _ _ _ (by omega) (by omega) (by omega) (by omega) (by omega) (by omega) (by omega) (by omega) (by omega) (by omega) (by omega) (by omega)).mono ?_
            rw [hn'.out]
            rintro e w3 ⟨rfl, hb3⟩
            go_wp2
            go_roundw
            case rel => exact ⟨j + 1, _, _, by omega, by omega, by rw [Int.add_assoc], (by show (⟨sn, sd⟩ : CS) = _; rw [hst.out, ← hs.out, cstep_f hn'.out]), (t0.alloc _).below hb3 (by simp; omega), (t1.alloc _).below hb3 (by simp; omega), (t2.alloc _).below hb3 (by simp; omega), by (repeat' (first | (with_reducible exact Below.refl _ _) | (with_reducible assumption) | (with_reducible refine Below.drew ?_) | (with_reducible refine below_drewN ?_ _) | (with_reducible refine Below.setCell ?_ ?_ _) | (with_reducible refine Below.alloc ?_ ?_ _) | (refine Below.trans ?_ (Below.mono (by with_reducible assumption) ?_)) | omega | (exact Below.size (by with_reducible assumption)) | (simp; done) | (simp; omega)))⟩
            case measure => simp only [intOf]; omega
          · have hn' := Lib.hid hn
            clear hn
            refine (nearer18 _ _ _ _ _ _ _ (by omega) (by omega) (by omega) (by omega) (by omega) (by omega) (by omega) (by omega) (by omega) (by omega) (by omega) (by omega)).mono ?_
            rw [hn'.out]
            rintro e w3 ⟨rfl, hb3⟩
            have hz3 := hb3.size
            simp at hz3
            have t0' := (t0.alloc _).below hb3 (by simp; omega)
            have t1' := (t1.alloc _).below hb3 (by simp; omega)
            have t2' := (t2.alloc _).below hb3 (by simp; omega)
            have t3' := t3.below hb3 (by simp)
            clear t0 t1 t2 t3
            obtain ⟨l3, c3, f3⟩ := t3'
            obtain ⟨l2', c2', f2'⟩ := t2'
            go_wp2
            go_roundw
            case rel => exact ⟨j + 1, _, _, by omega, by omega, by rw [Int.add_assoc], (by show (⟨low + j, k + 1⟩ : CS) = _; rw [hst.out, ← hs.out, cstep_t hn'.out]), (t0'.setOther (by simp; omega) _).setOther (by simp; omega) _, (t1'.setOther (by simp; omega) _).setOther (by simp; omega) _, ((Own.mk l2' c2' f2').set 0 (by simp) _).set 1 (by simp) _, by (repeat' (first | (with_reducible exact Below.refl _ _) | (with_reducible assumption) | (with_reducible refine Below.drew ?_) | (with_reducible refine below_drewN ?_ _) | (with_reducible refine Below.setCell ?_ ?_ _) | (with_reducible refine Below.alloc ?_ ?_ _) | (refine Below.trans ?_ (Below.mono (by with_reducible assumption) ?_)) | omega | (exact Below.size (by with_reducible assumption)) | (simp; done) | (simp; omega)))⟩
            case measure => simp only [intOf]; omega
        · have hj1 : j = 2 := by omega
          subst hj1
          go_wp2
          go_roundw
          case rel =>
            have e : (⟨sn, sd⟩ : CS) = cafter rn rd (k + 1) := by rw [hs.out, hlow.out]; rfl
            have e1 : sn = (cafter rn rd (k + 1)).n := congrArg CS.n e
            have e2 : sd = (cafter rn rd (k + 1)).d := congrArg CS.d e
            exact ⟨k + 1, by omega, by go_num, t0, t1, by rw [← e1, ← e2]; exact t2, hbw⟩
          case measure => simp only [intOf]; omega
    · have hkm : k = m := by omega
      subst hkm
      obtain ⟨b0, b1, b2, b3⟩ := hbd
      have hcn : -3000000000000 ≤ (cafter rn rd k).n ∧ (cafter rn rd k).n ≤ 3000000000000 := by
        have e1 := @mul_bd rn (cafter rn rd k).d 1000000 1000000 (by omega) (by omega) (by omega) (by omega) (by omega) (by omega)
        have e2 : (cafter rn rd k).n.natAbs ≤ ((cafter rn rd k).n * rd).natAbs := by
          rw [Int.natAbs_mul]
          have : (cafter rn rd k).n.natAbs * 1 ≤ (cafter rn rd k).n.natAbs * rd.natAbs := Nat.mul_le_mul_left _ (by omega)
          omega
        omega
      obtain ⟨l2, c2, f2⟩ := t2
      go_wp2_with fail
      have t2 : Own wr w1.heap.size [.int .i64 (cafter rn rd k).n, .int .i64 (cafter rn rd k).d] := ⟨l2, c2, f2⟩
      clear c2 f2
      refine (reduced19 _ _ _ (by omega) (by omega) (by omega) (by omega)).mono ?_
      rintro e w3 ⟨rfl, hb3⟩
      have t1' := t1.below hb3 t1.lt
      have hz3 := hb3.size
      obtain ⟨l1, c1, f1⟩ := t1'
      go_wp2
      refine bodyPost_ret (v := .tuple #[.agg #[.int .i64 (redN (cafter rn rd k).n (cafter rn rd k).d), .int .i64 (redD (cafter rn rd k).n (cafter rn rd k).d)], .int .i64 0]) (by simp [results, Try.results15, go_sem, *]) rfl ⟨rfl, ?_⟩
      (repeat' (first | (with_reducible exact Below.refl _ _) | (with_reducible assumption) | (with_reducible refine Below.drew ?_) | (with_reducible refine below_drewN ?_ _) | (with_reducible refine Below.setCell ?_ ?_ _) | (with_reducible refine Below.alloc ?_ ?_ _) | (refine Below.trans ?_ (Below.mono (by with_reducible assumption) ?_)) | omega | (exact Below.size (by with_reducible assumption)) | (simp; done) | (simp; omega)))

theorem best15 (n d most : Int) (w : World) (hmost : most ≤ 200 ∨ 1000000 < most) :
    Calls Try.prog 15 #[.agg #[.int .i64 n, .int .i64 d], .int .i64 most] w fun e w' => e = .returned (.tuple #[.agg #[.int .i64 (rbestV n d most).n, .int .i64 (rbestV n d most).d], .int .i64 (rbestV n d most).e]) ∧ Below w.heap.size w w' := by
  cases hr : ratB n d
  · have hv : rbestV n d most = ⟨0, 0, 10⟩ := by simp [rbestV, hr]
    rw [hv]; clear hv
    go_enter Try.func15, Try.ntmps15
    go_wp2_with fail
    refine (isRatio16 _ _ _).mono ?_
    rintro e w1 ⟨rfl, hb1⟩
    (have hz1 := hb1.size; (try simp at hz1); have hc1_0 := fun o => (bcell hb1).1 (w.heap.size) o (by first | omega | (simp; done) | (simp; omega)); have hf1_0 := fun o => (bcell hb1).2 (w.heap.size) o (by first | omega | (simp; done) | (simp; omega)); have : w.heap.size < w1.heap.size := (by first | omega | (simp; done) | (simp; omega)); have : w.heap.size < w1.heap.size + 1 := (by first | omega | (simp; done) | (simp; omega)); have : w.heap.size < w1.heap.size + 2 := (by first | omega | (simp; done) | (simp; omega)); have : w.heap.size < w1.heap.size + 3 := (by first | omega | (simp; done) | (simp; omega)); have hc1_1 := fun o => (bcell hb1).1 (w.heap.size+1) o (by first | omega | (simp; done) | (simp; omega)); have hf1_1 := fun o => (bcell hb1).2 (w.heap.size+1) o (by first | omega | (simp; done) | (simp; omega)); have : w.heap.size+1 < w1.heap.size := (by first | omega | (simp; done) | (simp; omega)); have : w.heap.size+1 < w1.heap.size + 1 := (by first | omega | (simp; done) | (simp; omega)); have : w.heap.size+1 < w1.heap.size + 2 := (by first | omega | (simp; done) | (simp; omega)); have : w.heap.size+1 < w1.heap.size + 3 := (by first | omega | (simp; done) | (simp; omega)))
    go_wp2
    refine bodyPost_ret (v := .tuple #[.agg #[.int .i64 0, .int .i64 0], .int .i64 10]) (by simp [results, Try.results15, go_sem, *]) rfl ⟨rfl, ?_⟩
    (repeat' (first | (with_reducible exact Below.refl _ _) | (with_reducible assumption) | (with_reducible refine Below.drew ?_) | (with_reducible refine below_drewN ?_ _) | (with_reducible refine Below.setCell ?_ ?_ _) | (with_reducible refine Below.alloc ?_ ?_ _) | (refine Below.trans ?_ (Below.mono (by with_reducible assumption) ?_)) | omega | (exact Below.size (by with_reducible assumption)) | (simp; done) | (simp; omega)))
  · obtain ⟨⟨h1, h2⟩, h3, h4⟩ := ratB_iff.1 hr
    cases hb : btw most 1 1000000
    · have hv : rbestV n d most = ⟨0, 0, 1⟩ := by simp [rbestV, hr, hb]
      rw [hv]; clear hv
      go_enter Try.func15, Try.ntmps15
      go_wp2_with fail
      refine (isRatio16 _ _ _).mono ?_
      rintro e w1 ⟨rfl, hb1⟩
      (have hz1 := hb1.size; (try simp at hz1); have hc1_0 := fun o => (bcell hb1).1 (w.heap.size) o (by first | omega | (simp; done) | (simp; omega)); have hf1_0 := fun o => (bcell hb1).2 (w.heap.size) o (by first | omega | (simp; done) | (simp; omega)); have : w.heap.size < w1.heap.size := (by first | omega | (simp; done) | (simp; omega)); have : w.heap.size < w1.heap.size + 1 := (by first | omega | (simp; done) | (simp; omega)); have : w.heap.size < w1.heap.size + 2 := (by first | omega | (simp; done) | (simp; omega)); have : w.heap.size < w1.heap.size + 3 := (by first | omega | (simp; done) | (simp; omega)); have hc1_1 := fun o => (bcell hb1).1 (w.heap.size+1) o (by first | omega | (simp; done) | (simp; omega)); have hf1_1 := fun o => (bcell hb1).2 (w.heap.size+1) o (by first | omega | (simp; done) | (simp; omega)); have : w.heap.size+1 < w1.heap.size := (by first | omega | (simp; done) | (simp; omega)); have : w.heap.size+1 < w1.heap.size + 1 := (by first | omega | (simp; done) | (simp; omega)); have : w.heap.size+1 < w1.heap.size + 2 := (by first | omega | (simp; done) | (simp; omega)); have : w.heap.size+1 < w1.heap.size + 3 := (by first | omega | (simp; done) | (simp; omega)))
      go_wp2_with (first | (go_at_call 26; refine (within26 _ _ _ _).mono ?_; rintro e w1 ⟨rfl, rfl⟩))
      refine bodyPost_ret (v := .tuple #[.agg #[.int .i64 0, .int .i64 0], .int .i64 1]) (by simp [results, Try.results15, go_sem, *]) rfl ⟨rfl, ?_⟩
      (repeat' (first | (with_reducible exact Below.refl _ _) | (with_reducible assumption) | (with_reducible refine Below.drew ?_) | (with_reducible refine below_drewN ?_ _) | (with_reducible refine Below.setCell ?_ ?_ _) | (with_reducible refine Below.alloc ?_ ?_ _) | (refine Below.trans ?_ (Below.mono (by with_reducible assumption) ?_)) | omega | (exact Below.size (by with_reducible assumption)) | (simp; done) | (simp; omega)))
    · obtain ⟨h5, h6⟩ := btw_iff.1 hb
      have hv : rbestV n d most = ⟨redN (cafter n d most.toNat).n (cafter n d most.toNat).d, redD (cafter n d most.toNat).n (cafter n d most.toNat).d, 0⟩ := by simp [rbestV, hr, hb]
      rw [hv]
      exact best15_core n d most w hr h5 (by omega) hb h3 h4 h1 h2 _ (by omega)

end Go.Proofs.Ytfboiplpfkommaa
