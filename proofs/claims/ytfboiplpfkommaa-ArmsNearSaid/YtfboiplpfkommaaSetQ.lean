/- Plain mathematics: the theorems of the setting and of the scales. -/
import Derived.Test.YtfboiplpfkommaaWkP
import Derived.Test.YtfboiplpfkommaaRatP
import Derived.Test.YtfboiplpfkommaaKit
namespace Go.Proofs.Ytfboiplpfkommaa
open Go.RowKit

/-- A greater wanted ratio has no lesser setting. -/
theorem setV_mono {a b c d lo hi p q p' q' : Int} (hlh : lo ≤ hi) (ha : 1 ≤ a) (hc : 1 ≤ c) (hB : 1 ≤ b * d) (hq : 1 ≤ q) (hq' : 1 ≤ q') (h : p * q' ≤ p' * q) :
    setV a b c d lo hi p q ≤ setV a b c d lo hi p' q' := by
  obtain ⟨⟨n1, n2⟩, n3⟩ := @setV_spec a b c d lo hi p q hlh
  obtain ⟨⟨m1, m2⟩, m3⟩ := @setV_spec a b c d lo hi p' q' hlh
  generalize setV a b c d lo hi p q = n at *
  generalize setV a b c d lo hi p' q' = m at *
  false_or_by_contra
  rename_i hlt
  have f1 := (n3 m m1 m2).2 (by omega)
  have f2 := (m3 n n1 n2).1
  unfold offV at f1 f2
  have hX : 0 < a * c * q := Int.mul_pos (Int.mul_pos (by omega) (by omega)) (by omega)
  have hY : 0 < a * c * q' := Int.mul_pos (Int.mul_pos (by omega) (by omega)) (by omega)
  have e1 : n * a * c * q = n * (a * c * q) := by grind
  have e2 : m * a * c * q = m * (a * c * q) := by grind
  have e3 : n * a * c * q' = n * (a * c * q') := by grind
  have e4 : m * a * c * q' = m * (a * c * q') := by grind
  rw [e1, e2] at f1
  rw [e3, e4] at f2
  have g1 : m * (a * c * q) < n * (a * c * q) := Int.mul_lt_mul_of_pos_right (by omega) hX
  have g2 : m * (a * c * q') < n * (a * c * q') := Int.mul_lt_mul_of_pos_right (by omega) hY
  have k1 : n * (a * c * q) + m * (a * c * q) < 2 * (p * (b * d)) := by omega
  have k2 : 2 * (p' * (b * d)) ≤ n * (a * c * q') + m * (a * c * q') := by omega
  have l1 : (n * (a * c * q) + m * (a * c * q)) * (a * c * q') < 2 * (p * (b * d)) * (a * c * q') := Int.mul_lt_mul_of_pos_right k1 hY
  have l2 : 2 * (p' * (b * d)) * (a * c * q) ≤ (n * (a * c * q') + m * (a * c * q')) * (a * c * q) := Int.mul_le_mul_of_nonneg_right k2 (by omega)
  have l3 : (p * q') * (2 * (b * d) * (a * c)) ≤ (p' * q) * (2 * (b * d) * (a * c)) := Int.mul_le_mul_of_nonneg_right h (Int.mul_nonneg (by omega) (Int.mul_nonneg (by omega) (by omega)))
  have r1 : (n * (a * c * q) + m * (a * c * q)) * (a * c * q') = (n * (a * c * q') + m * (a * c * q')) * (a * c * q) := by grind
  have r2 : 2 * (p * (b * d)) * (a * c * q') = (p * q') * (2 * (b * d) * (a * c)) := by grind
  have r3 : 2 * (p' * (b * d)) * (a * c * q) = (p' * q) * (2 * (b * d) * (a * c)) := by grind
  omega

structure S6 (a b c d lo hi p q sc mo n k l : Int) : Prop where
  hn : Hid (setR a b c d lo hi p q = ⟨n, 0⟩)
  hm : Hid (scaleR a b c d lo hi 1 p q = ⟨n, 0⟩)
  hk : Hid (scaleR a b c d lo hi sc p q = ⟨k, 0⟩)
  hl : Hid (scaleR a b c d lo hi mo p q = ⟨l, 0⟩)
  kn : k ≤ n
  lk : l ≤ k
  ll : lo ≤ l
  less : ratB p (q * sc * sc) = true → Hid (setR a b c d lo hi p (q * sc * sc) = ⟨k, 0⟩)
theorem bd_pos {b d : Int} (hb : 1 ≤ b) (hd : 1 ≤ d) : 1 ≤ b * d := Int.mul_pos (show 0 < b by omega) (show 0 < d by omega)
theorem s6_of {a b c d lo hi p q sc mo : Int} (h : armB a b c d lo hi = true) (k : ratB p q = true) (hp : 0 < p) (hs : btw sc 1 100 = true) (hm : btw mo sc 100 = true) :
    ∃ n k l, S6 a b c d lo hi p q sc mo n k l := by
  obtain ⟨ha, hb, hc, hd, ⟨hl, hlh⟩, hh⟩ := armB_iff.1 h
  obtain ⟨⟨hq, hq'⟩, hp1, hp2⟩ := ratB_iff.1 k
  have hs2 := btw_iff.1 hs
  have hm2 := btw_iff.1 hm
  have hB := bd_pos hb.1 hd.1
  have w0 : ∀ p' q', ratB p' q' = true → 0 < p' → setR a b c d lo hi p' q' = ⟨setV a b c d lo hi p' q', 0⟩ := fun p' q' k hp => by
    unfold setR; rw [if_pos (wishE_0 h k rfl hp)]
  have w1 : ∀ s, btw s 1 100 = true → scaleR a b c d lo hi s p q = ⟨setV a b c d lo hi p (q * (s * s)), 0⟩ := fun s hs => by
    unfold scaleR; rw [if_pos (wishE_0 h k hs hp)]
  have sq : 1 ≤ sc * sc := bd_pos hs2.1 hs2.1
  have sq2 : sc * sc ≤ mo * mo := Int.mul_le_mul hm2.1 hm2.1 (by omega) (by omega)
  have qs : q ≤ q * (sc * sc) := by
    have := Int.mul_le_mul_of_nonneg_left sq (show 0 ≤ q by omega); omega
  have qm : q * (sc * sc) ≤ q * (mo * mo) := Int.mul_le_mul_of_nonneg_left sq2 (by omega)
  refine ⟨_, _, _, w0 p q k hp, ?_, w1 sc hs, w1 mo (btw_iff.2 (by omega)), ?_, ?_, (setV_spec hlh).1.1, fun hless => ?_⟩
  · have := w1 1 (by decide)
    rw [show q * (1 * 1) = q by omega] at this
    exact this
  · exact setV_mono hlh ha.1 hc.1 hB (by omega) hq (Int.mul_le_mul_of_nonneg_left qs (by omega))
  · exact setV_mono hlh ha.1 hc.1 hB (by omega) (by omega) (Int.mul_le_mul_of_nonneg_left qm (by omega))
  · have := w0 p (q * sc * sc) hless hp
    rw [Int.mul_assoc] at this ⊢
    exact this

theorem sign_cases3 (x : Int) : x.sign ≤ 0 ∨ 0 < x := by
  rcases Int.lt_trichotomy x 0 with h | h | h
  · rw [Int.sign_eq_neg_one_of_neg h]; omega
  · subst h; exact .inl (by simp)
  · exact .inr h
structure S7 (a b c d lo hi p q p' q' s n m f g rn rd re sn sd se : Int) : Prop where
  hn : Hid (setR a b c d lo hi p q = ⟨n, 0⟩)
  hm : Hid (setR a b c d lo hi p' q' = ⟨m, 0⟩)
  n1 : lo ≤ n
  n2 : n ≤ hi
  m1 : lo ≤ m
  m2 : m ≤ hi
  le : p * q' ≤ p' * q → n ≤ m
  ge : p' * q ≤ p * q' → m ≤ n
  hf : Hid (offV a b c d p (q * (1 * 1)) n = f)
  hg : Hid (offV a b c d p (q * (1 * 1)) s = g)
  fg : f ≤ g
  eq : f = g → n ≤ s
  hr : Hid (offR a b c d lo hi n p q = ⟨rn, rd, re⟩)
  hs : Hid (offR a b c d lo hi s p q = ⟨sn, sd, se⟩)
  r2 : re = 0 ∨ re = 2
  s2 : se = 0 ∨ se = 2
  z : re = 0 → (rn = 0 ↔ f = 0)
  c : re = 0 → se = 0 → ∃ x, Hid (cmpV rn rd sn sd = ⟨x, 0⟩) ∧ x ≤ 0
theorem s7_of {a b c d lo hi p q p' q' s : Int} (h : armB a b c d lo hi = true) (k : ratB p q = true) (k' : ratB p' q' = true) (hp : 0 < p) (hp' : 0 < p') (h1 : lo ≤ s) (h2 : s ≤ hi) :
    ∃ n m f g rn rd re sn sd se, S7 a b c d lo hi p q p' q' s n m f g rn rd re sn sd se := by
  obtain ⟨ha, hb, hc, hd, ⟨hl, hlh⟩, hh⟩ := armB_iff.1 h
  have hB := bd_pos hb.1 hd.1
  have hq := ratB_d k
  have hq' := ratB_d k'
  have w0 : ∀ p' q', ratB p' q' = true → 0 < p' → setR a b c d lo hi p' q' = ⟨setV a b c d lo hi p' q', 0⟩ := fun p' q' k hp => by
    unfold setR; rw [if_pos (wishE_0 h k rfl hp)]
  have S := @setV_spec a b c d lo hi p q hlh
  have T := @setV_spec a b c d lo hi p' q' hlh
  have hD : 1 ≤ p * (b * d) := bd_pos hp hB
  have o0 : ∀ t, lo ≤ t → t ≤ hi → offR a b c d lo hi t p q = told (offV a b c d p q t) (p * (b * d)) := fun t t1 t2 => by
    unfold offR; rw [if_pos (wishE_0 h k (btw_iff.2 ⟨t1, t2⟩) hp)]
  have e1 : q * (1 * 1) = q := by omega
  have A := told_ans (offV a b c d p q (setV a b c d lo hi p q)) (p * (b * d)) hD
  have C := told_ans (offV a b c d p q s) (p * (b * d)) hD
  rw [← o0 _ S.1.1 S.1.2] at A
  rw [← o0 _ h1 h2] at C
  obtain ⟨⟨rn, rd, re⟩, hR⟩ : ∃ R, offR a b c d lo hi (setV a b c d lo hi p q) p q = R := ⟨_, rfl⟩
  obtain ⟨⟨sn, sd, se⟩, hS⟩ : ∃ R, offR a b c d lo hi s p q = R := ⟨_, rfl⟩
  rw [hR] at A
  rw [hS] at C
  refine ⟨_, _, _, _, _, _, _, _, _, _, { hn := w0 p q k hp, hm := w0 p' q' k' hp', n1 := S.1.1, n2 := S.1.2, m1 := T.1.1, m2 := T.1.2, le := setV_mono hlh ha.1 hc.1 hB hq hq', ge := setV_mono hlh ha.1 hc.1 hB hq' hq, hf := rfl, hg := rfl, fg := ?_, eq := ?_, hr := hR, hs := hS, r2 := A.e, s2 := C.e, z := ?_, c := ?_ }⟩
  · rw [e1]; exact (S.2 s h1 h2).1
  · rw [e1]; intro he
    have := (S.2 s h1 h2).2
    omega
  · intro he
    obtain ⟨a1, a2⟩ := A.ok he
    have d1 : 1 ≤ rd := redB_d a1
    have a3 : rn * (p * (b * d)) = offV a b c d p q (setV a b c d lo hi p q) * rd := a2
    rw [e1]
    constructor
    · intro h0
      rw [h0, Int.zero_mul] at a3
      exact ((Int.mul_eq_zero.1 a3.symm).resolve_right (by omega))
    · intro h0
      rw [h0, Int.zero_mul] at a3
      exact ((Int.mul_eq_zero.1 a3).resolve_right (by omega))
  · intro he he'
    obtain ⟨a1, a2⟩ := A.ok he
    obtain ⟨c1, c2⟩ := C.ok he'
    have d1 : 1 ≤ rd := redB_d a1
    have d2 : 1 ≤ sd := redB_d c1
    have v1 := (redB_iff.1 a1).1
    have v2 := (redB_iff.1 c1).1
    refine ⟨_, cmpV_t v1 v2, ?_⟩
    have hle := (S.2 s h1 h2).1
    have a3 : rn * (p * (b * d)) = offV a b c d p q (setV a b c d lo hi p q) * rd := a2
    have c3 : sn * (p * (b * d)) = offV a b c d p q s * sd := c2
    have e3 : (rn * sd - sn * rd) * (p * (b * d)) ≤ 0 := by
      have f1 : (rn * sd - sn * rd) * (p * (b * d)) = (rn * (p * (b * d))) * sd - (sn * (p * (b * d))) * rd := by grind
      rw [f1, a3, c3]
      have f2 : offV a b c d p q (setV a b c d lo hi p q) * rd * sd - offV a b c d p q s * sd * rd = (offV a b c d p q (setV a b c d lo hi p q) - offV a b c d p q s) * (rd * sd) := by grind
      rw [f2]
      exact Int.mul_nonpos_of_nonpos_of_nonneg (by omega) (Int.mul_nonneg (by omega) (by omega))
    show (rn * sd - sn * rd).sign ≤ 0
    rcases sign_cases3 (rn * sd - sn * rd) with hx | hx
    · omega
    · have := Int.mul_pos hx (show 0 < p * (b * d) by omega)
      omega

end Go.Proofs.Ytfboiplpfkommaa
