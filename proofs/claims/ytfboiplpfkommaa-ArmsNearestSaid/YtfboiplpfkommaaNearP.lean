/- Plain mathematics: the theorem of the best ratio. -/
import Derived.Test.YtfboiplpfkommaaRatP
import Derived.Test.YtfboiplpfkommaaKit
namespace Go.Proofs.Ytfboiplpfkommaa
open Go.RowKit

theorem SI.le {rn rd den : Int} {s : BS} (h : SI rn rd den s) (hrd : 1 ≤ rd) (hf : 0 ≤ s.f) : s.d ≤ rd := by
  false_or_by_contra
  have h1 := h.first rd rn hrd (by omega)
  have e : far rn rd rd rn = 0 := by simp [far]
  rw [e] at h1
  have := Int.mul_nonneg hf (show 0 ≤ rd by omega)
  omega
theorem SI.exact {rn rd den : Int} {s : BS} (h : SI rn rd den s) (hrd : 1 ≤ rd) (hf : 0 ≤ s.f) (hlt : rd < den) : rn * s.d = s.n * rd := by
  have h1 := h.opt rd rn hrd hlt
  have e : far rn rd rd rn = 0 := by simp [far]
  rw [e, Int.zero_mul] at h1
  have h0 : s.f = 0 := by
    false_or_by_contra
    have := Int.mul_pos (show 0 < s.f by omega) (show 0 < rd by omega)
    omega
  have h2 := h.f
  unfold far at h2
  omega
theorem SI.num {rn rd den : Int} {s : BS} (h : SI rn rd den s) (hrd : 1 ≤ rd) (hf : 0 ≤ s.f) (hf1 : s.f ≤ rd) (hk : s.d < den) (hb : -1000000 ≤ rn ∧ rn ≤ 1000000) : -1000000 ≤ s.n ∧ s.n ≤ 1000000 := by
  have hle := h.le hrd hf
  have hd1 := h.d1
  by_cases heq : s.d = rd
  · have := h.exact hrd hf (by omega)
    rw [heq] at this
    have : rn = s.n := Int.eq_of_mul_eq_mul_right (by omega) this
    omega
  · have h2 := h.f
    unfold far at h2
    have a1 : s.n * rd ≤ rn * s.d + rd := by omega
    have a2 : rn * s.d - rd ≤ s.n * rd := by omega
    constructor
    · rcases Int.lt_or_le rn 0 with hr | hr
      · false_or_by_contra
        have e1 : s.n * rd ≤ (rn - 1) * rd := Int.mul_le_mul_of_nonneg_right (by omega) (by omega)
        have e2 : rn * (rd - 1) ≤ rn * s.d := Int.mul_le_mul_of_nonpos_left (by omega) (by omega)
        have e3 : (rn - 1) * rd = rn * rd - rd := by grind
        have e4 : rn * (rd - 1) = rn * rd - rn := by grind
        omega
      · false_or_by_contra
        have e1 : s.n * rd ≤ (-2) * rd := Int.mul_le_mul_of_nonneg_right (by omega) (by omega)
        have e2 := Int.mul_nonneg hr (show 0 ≤ s.d by omega)
        omega
    · rcases Int.lt_or_le 0 rn with hr | hr
      · false_or_by_contra
        have e1 : (rn + 1) * rd ≤ s.n * rd := Int.mul_le_mul_of_nonneg_right (by omega) (by omega)
        have e2 : rn * s.d ≤ rn * (rd - 1) := Int.mul_le_mul_of_nonneg_left (by omega) (by omega)
        have e3 : (rn + 1) * rd = rn * rd + rd := by grind
        have e4 : rn * (rd - 1) = rn * rd - rn := by grind
        omega
      · false_or_by_contra
        have e1 : 2 * rd ≤ s.n * rd := Int.mul_le_mul_of_nonneg_right (by omega) (by omega)
        have e2 := Int.mul_nonpos_of_nonpos_of_nonneg hr (show 0 ≤ s.d by omega)
        omega

/-- What stands when Best is done. -/
structure Done (n d most an ad : Int) : Prop where
  v : bestV n d most = ⟨an, ad, 0⟩
  r : redB an ad = true
  le : ad ≤ most
  opt : ∀ x y, 1 ≤ x → x ≤ most → far (redN n d) (redD n d) ad an * x ≤ far (redN n d) (redD n d) x y * ad
  own : redD n d ≤ most → redN n d = an ∧ redD n d = ad
theorem best_done {n d most : Int} (hr : ratB n d = true) (h1 : 1 ≤ most) (h2 : most ≤ 1000000) : ∃ an ad, Done n d most an ad := by
  obtain ⟨⟨g1, g2⟩, g3⟩ := ratB_iff.1 hr
  have hrd := redD_pos n d g1
  have hrn := redN_le n d 1000000 g1 g3.1 g3.2
  have hrl := redD_le n d g1
  obtain ⟨k, hk⟩ : ∃ k : Nat, most.toNat = k + 1 := ⟨most.toNat - 1, by omega⟩
  have S := bafter_SI (redN n d) (redD n d) hrd k
  have B := bafter_bd (redN n d) (redD n d) hrd (k + 1)
  have hv : bestV n d most = ⟨(bafter (redN n d) (redD n d) (k + 1)).n, (bafter (redN n d) (redD n d) (k + 1)).d, 0⟩ := by
    unfold bestV
    rw [if_pos hr, if_pos (btw_iff.2 ⟨h1, h2⟩), bafter_min hrd h1, hk]
  generalize bafter (redN n d) (redD n d) (k + 1) = s at *
  have hle := S.le hrd B.f0
  have hd1 := S.d1
  have hdk := B.d1
  have hn := S.num hrd B.f0 B.f1 (by omega) hrn
  obtain ⟨q1, q2⟩ := red_of_gcd S.reduced
  refine ⟨_, _, hv, redB_iff.2 ⟨ratB_iff.2 ⟨⟨by omega, by omega⟩, hn⟩, q1, q2⟩, by omega, fun x y hx hx2 => ?_, fun ho => ?_⟩
  · have := S.opt x y hx (by omega)
    rw [S.f] at this
    exact this
  · have := S.exact hrd B.f0 (by omega)
    have e := red_congr (n := redN n d) (d := redD n d) (n' := s.n) (d' := s.d) hrd (by omega) this
    have e2 := red_red n d g1
    rw [e2.1, e2.2, q1, q2] at e
    exact e

theorem near_r {pn pd qn qd n d : Int} (hd : 1 ≤ d) : nearB pn pd qn qd n d = decide (far (redN n d) (redD n d) pd pn * qd < far (redN n d) (redD n d) qd qn * pd) := by
  have hg := gcd_pos n d hd
  have := near_far (rn := redN n d) (rd := redD n d) (g := Int.gcd n d) (num := pn) (den := pd) (sn := qn) (sd := qd) hg
  rw [redN_mul, redD_mul] at this
  exact this
theorem Done.not_nearer {n d most an ad pn pd : Int} (h : Done n d most an ad) (hd : 1 ≤ d) (h1 : 1 ≤ pd) (h2 : pd ≤ most) : nearB pn pd an ad n d = false := by
  rw [near_r hd]
  have := h.opt pd pn h1 h2
  exact decide_eq_false (by omega)
theorem near_bds {pn pd qn qd rn rd : Int} (h : ratB pn pd = true) (k : ratB qn qd = true) (l : ratB rn rd = true) :
    (-2000000000000000000 ≤ pn * rd ∧ pn * rd ≤ 2000000000000000000) ∧ (-2000000000000000000 ≤ rn * pd ∧ rn * pd ≤ 2000000000000000000) ∧
    (-9000000000000000000 ≤ ((pn * rd - rn * pd).natAbs : Int) * qd ∧ ((pn * rd - rn * pd).natAbs : Int) * qd ≤ 9000000000000000000) := by
  obtain ⟨e1, e2, _⟩ := rat_mul h l
  obtain ⟨⟨k1, k2⟩, _⟩ := ratB_iff.1 k
  have e3 := @mul_bd ((pn * rd - rn * pd).natAbs : Int) qd 2000000000000 1000000 (by omega) (by omega) (by omega) (by omega) (by omega) (by omega)
  omega

structure N4 (n d x y on od an ad bn bd cn cd : Int) : Prop where
  ha : Hid (bestV n d x = ⟨an, ad, 0⟩)
  hb : Hid (bestV n d (x + y) = ⟨bn, bd, 0⟩)
  hc : Hid (bestV (-n) d x = ⟨cn, cd, 0⟩)
  ra : redB an ad = true
  rb : redB bn bd = true
  rc : redB cn cd = true
  la : ad ≤ x
  lb : bd ≤ x + y
  lc : cd ≤ x
  n1 : Hid (nearB an ad bn bd n d = false)
  n2 : Hid (nearB an ad (-cn) cd n d = false)
  n3 : Hid (nearB (-cn) cd an ad n d = false)
  own : redD n d ≤ x → redN n d = an ∧ redD n d = ad
  oth : ratB on od = true → od ≤ x → nearB on od an ad n d = false
theorem far_neg (rn rd den num : Int) : far (-rn) rd den num = far rn rd den (-num) := by unfold far; rw [show -rn * den - num * rd = -(rn * den - -num * rd) by grind]; simp
theorem red_neg (n d : Int) : redN (-n) d = -redN n d ∧ redD (-n) d = redD n d := by
  unfold redN redD
  rw [Int.neg_gcd]
  exact ⟨Int.neg_ediv_of_dvd (Int.gcd_dvd_left n d), rfl⟩
theorem n4_of {n d x y on od : Int} (hr : ratB n d = true) (h1 : 1 ≤ x) (h2 : x ≤ 1000) (h3 : 0 ≤ y) (h4 : y ≤ 1000) : ∃ an ad bn bd cn cd, N4 n d x y on od an ad bn bd cn cd := by
  obtain ⟨⟨g1, g2⟩, g3⟩ := ratB_iff.1 hr
  obtain ⟨an, ad, A⟩ := best_done hr h1 (by omega)
  obtain ⟨bn, bd, B⟩ := best_done (most := x + y) hr (by omega) (by omega)
  obtain ⟨cn, cd, C⟩ := best_done (n := -n) (d := d) (most := x) (ratB_iff.2 ⟨⟨g1, g2⟩, by omega⟩) h1 (by omega)
  have da := redB_d A.r
  have dc := redB_d C.r
  refine ⟨an, ad, bn, bd, cn, cd, A.v, B.v, C.v, A.r, B.r, C.r, A.le, B.le, C.le, B.not_nearer g1 da (by have := A.le; omega), ?_, A.not_nearer g1 dc C.le, A.own, fun ho hl => A.not_nearer g1 (ratB_d ho) hl⟩
  have h := C.not_nearer (pn := -an) (pd := ad) g1 da A.le
  rw [near_r g1, (red_neg n d).1, (red_neg n d).2, far_neg, far_neg, Int.neg_neg] at h
  show nearB _ _ _ _ _ _ = _
  rw [near_r g1]
  exact h

end Go.Proofs.Ytfboiplpfkommaa
