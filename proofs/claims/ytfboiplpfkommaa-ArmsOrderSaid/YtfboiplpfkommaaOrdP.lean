/- Plain mathematics: the order of ratios. -/
import Derived.Test.YtfboiplpfkommaaRatP
import Derived.Test.YtfboiplpfkommaaKit
namespace Go.Proofs.Ytfboiplpfkommaa
open Go.RowKit

theorem sign_cases (x : Int) : (x.sign = -1 ∧ x < 0) ∨ (x.sign = 0 ∧ x = 0) ∨ (x.sign = 1 ∧ 0 < x) := by
  rcases Int.lt_trichotomy x 0 with h | h | h
  · exact .inl ⟨Int.sign_eq_neg_one_of_neg h, h⟩
  · subst h; exact .inr (.inl ⟨rfl, rfl⟩)
  · exact .inr (.inr ⟨Int.sign_eq_one_of_pos h, h⟩)
theorem sign_same {x y s t : Int} (hs : 0 < s) (ht : 0 < t) (h : s * x = t * y) : x.sign = y.sign := by
  have e : (s * x).sign = (t * y).sign := by rw [h]
  rw [Int.sign_mul, Int.sign_mul, Int.sign_eq_one_of_pos hs, Int.sign_eq_one_of_pos ht] at e
  simpa using e

structure O5 (a b c d p q : Int) (m n k l rn rd sn sd : Int) (X Y P Q : RE) : Prop where
  hm : Hid (cmpV a b c d = ⟨m, 0⟩)
  hn : Hid (cmpV c d a b = ⟨n, 0⟩)
  hk : Hid (cmpV c d p q = ⟨k, 0⟩)
  hl : Hid (cmpV a b p q = ⟨l, 0⟩)
  hr : Hid (reduceV a b = ⟨rn, rd, 0⟩)
  hs : Hid (reduceV c d = ⟨sn, sd, 0⟩)
  hx : Hid (addV a b p q = X)
  hy : Hid (addV c d p q = Y)
  hp : Hid (mulV a b p q = P)
  hq : Hid (mulV c d p q = Q)
  xe : X.e = 0 ∨ X.e = 2
  ye : Y.e = 0 ∨ Y.e = 2
  pe : P.e = 0 ∨ P.e = 2
  qe : Q.e = 0 ∨ Q.e = 2
  rr : redB rn rd = true
  ss : redB sn sd = true
  nm : n = -m
  mm : m = -1 ∨ m = 0 ∨ m = 1
  le : m ≤ 0 → k ≤ 0 → l ≤ 0
  ge : 0 ≤ m → 0 ≤ k → 0 ≤ l
  same : m = 0 → rn = sn ∧ rd = sd
  other : m ≠ 0 → ¬ (rn = sn ∧ rd = sd)
  sum : X.e = 0 → Y.e = 0 → Hid (cmpV X.n X.d Y.n Y.d = ⟨m, 0⟩)
  prod : 0 < p → P.e = 0 → Q.e = 0 → Hid (cmpV P.n P.d Q.n Q.d = ⟨m, 0⟩)

theorem o5_of {a b c d p q : Int} (h : ratB a b = true) (k : ratB c d = true) (l : ratB p q = true) :
    O5 a b c d p q (a * d - c * b).sign (c * b - a * d).sign (c * q - p * d).sign (a * q - p * b).sign (redN a b) (redD a b) (redN c d) (redD c d) (addV a b p q) (addV c d p q) (mulV a b p q) (mulV c d p q) := by
  have hb := ratB_d h; have hd := ratB_d k; have hq := ratB_d l
  have nm : (c * b - a * d).sign = -(a * d - c * b).sign := by rw [← Int.sign_neg]; congr 1; omega
  have tr : q * (a * d - c * b) + b * (c * q - p * d) = d * (a * q - p * b) := by grind
  have rr : redB (redN a b) (redD a b) = true := by have := (told_ans a b hb).ok; rw [told_ok h] at this; exact (this rfl).1
  have ss : redB (redN c d) (redD c d) = true := by have := (told_ans c d hd).ok; rw [told_ok k] at this; exact (this rfl).1
  refine { hm := cmpV_t h k, hn := cmpV_t k h, hk := cmpV_t k l, hl := cmpV_t h l, hr := reduceV_t h, hs := reduceV_t k, hx := rfl, hy := rfl, hp := rfl, hq := rfl
           xe := (addV_ans h l).e, ye := (addV_ans k l).e, pe := (mulV_ans h l).e, qe := (mulV_ans k l).e, rr := rr, ss := ss, nm := nm
           mm := ?_, le := ?_, ge := ?_, same := ?_, other := ?_, sum := ?_, prod := ?_ }
  · rcases sign_cases (a * d - c * b) with h | h | h <;> simp [h.1]
  · intro h1 h2
    have k1 : a * d - c * b ≤ 0 := by rcases sign_cases (a * d - c * b) with h | h | h <;> omega
    have k2 : c * q - p * d ≤ 0 := by rcases sign_cases (c * q - p * d) with h | h | h <;> omega
    have e1 := Int.mul_nonpos_of_nonneg_of_nonpos (show 0 ≤ q by omega) k1
    have e2 := Int.mul_nonpos_of_nonneg_of_nonpos (show 0 ≤ b by omega) k2
    rcases sign_cases (a * q - p * b) with h | h | h
    · omega
    · omega
    · have := Int.mul_pos (show 0 < d by omega) h.2; omega
  · intro h1 h2
    have k1 : 0 ≤ a * d - c * b := by rcases sign_cases (a * d - c * b) with h | h | h <;> omega
    have k2 : 0 ≤ c * q - p * d := by rcases sign_cases (c * q - p * d) with h | h | h <;> omega
    have e1 := Int.mul_nonneg (show 0 ≤ q by omega) k1
    have e2 := Int.mul_nonneg (show 0 ≤ b by omega) k2
    rcases sign_cases (a * q - p * b) with h | h | h
    · have := Int.mul_neg_of_pos_of_neg (show 0 < d by omega) h.2; omega
    · omega
    · omega
  · intro h0
    have : a * d = c * b := by rcases sign_cases (a * d - c * b) with h | h | h <;> omega
    exact red_congr hb hd this
  · rintro h0 ⟨e1, e2⟩
    have c1 := red_cross a b
    have c2 := red_cross c d
    rw [← e1, ← e2] at c2
    have hp := redD_pos a b hb
    have : a * d = c * b := by
      refine cancel hp ?_
      grind
    rw [this, Int.sub_self] at h0
    exact h0 rfl
  · intro e1 e2
    obtain ⟨r1, c1⟩ := (addV_ans h l).ok e1
    obtain ⟨r2, c2⟩ := (addV_ans k l).ok e2
    have v1 := (redB_iff.1 r1).1
    have v2 := (redB_iff.1 r2).1
    have d1 := ratB_d v1; have d2 := ratB_d v2
    show cmpV _ _ _ _ = _
    rw [cmpV_t v1 v2]
    generalize (addV a b p q).n = x at *
    generalize (addV a b p q).d = y at *
    generalize (addV c d p q).n = u at *
    generalize (addV c d p q).d = v at *
    have : (x * v - u * y).sign = (a * d - c * b).sign := by
      refine sign_same (s := b * d * q) (t := y * v * q) (Int.mul_pos (Int.mul_pos (by omega) (by omega)) (by omega)) (Int.mul_pos (Int.mul_pos (by omega) (by omega)) (by omega)) ?_
      have e3 : x * (b * q) * (d * v) - u * (d * q) * (b * y) = (a * q + p * b) * y * (d * v) - (c * q + p * d) * v * (b * y) := by rw [c1, c2]
      grind
    rw [this]
  · intro hp e1 e2
    obtain ⟨r1, c1⟩ := (mulV_ans h l).ok e1
    obtain ⟨r2, c2⟩ := (mulV_ans k l).ok e2
    have v1 := (redB_iff.1 r1).1
    have v2 := (redB_iff.1 r2).1
    have d1 := ratB_d v1; have d2 := ratB_d v2
    show cmpV _ _ _ _ = _
    rw [cmpV_t v1 v2]
    generalize (mulV a b p q).n = x at *
    generalize (mulV a b p q).d = y at *
    generalize (mulV c d p q).n = u at *
    generalize (mulV c d p q).d = v at *
    have : (x * v - u * y).sign = (a * d - c * b).sign := by
      refine sign_same (s := b * d * q) (t := y * v * p) (Int.mul_pos (Int.mul_pos (by omega) (by omega)) (by omega)) (Int.mul_pos (Int.mul_pos (by omega) (by omega)) hp) ?_
      have e3 : x * (b * q) * (d * v) - u * (d * q) * (b * y) = (a * p) * y * (d * v) - (c * p) * v * (b * y) := by rw [c1, c2]
      grind
    rw [this]

end Go.Proofs.Ytfboiplpfkommaa
