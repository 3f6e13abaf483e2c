/- Plain mathematics: arms, settings, the nearest one. -/
import Derived.Test.YtfboiplpfkommaaPure
namespace Go.Proofs.Ytfboiplpfkommaa

def armB (a b c d lo hi : Int) : Bool := btw a 1 100 && btw b 1 100 && btw c 1 100 && btw d 1 100 && btw lo 1 hi && decide (hi ≤ 10000)
theorem armB_iff {a b c d lo hi : Int} : armB a b c d lo hi = true ↔ (1 ≤ a ∧ a ≤ 100) ∧ (1 ≤ b ∧ b ≤ 100) ∧ (1 ≤ c ∧ c ≤ 100) ∧ (1 ≤ d ∧ d ≤ 100) ∧ (1 ≤ lo ∧ lo ≤ hi) ∧ hi ≤ 10000 := by
  simp only [armB, Bool.and_eq_true, btw_iff, decide_eq_true_eq, and_assoc]
theorem armB_1 {a b c d lo hi : Int} (h : btw a 1 100 = false) : armB a b c d lo hi = false := by simp [armB, h]
theorem armB_2 {a b c d lo hi : Int} (h : btw b 1 100 = false) : armB a b c d lo hi = false := by simp [armB, h]
theorem armB_3 {a b c d lo hi : Int} (h : btw c 1 100 = false) : armB a b c d lo hi = false := by simp [armB, h]
theorem armB_4 {a b c d lo hi : Int} (h : btw d 1 100 = false) : armB a b c d lo hi = false := by simp [armB, h]
theorem armB_5 {a b c d lo hi : Int} (h : btw lo 1 hi = false) : armB a b c d lo hi = false := by simp [armB, h]
theorem armB_6 {a b c d lo hi : Int} (h1 : btw a 1 100 = true) (h2 : btw b 1 100 = true) (h3 : btw c 1 100 = true) (h4 : btw d 1 100 = true) (h5 : btw lo 1 hi = true) : armB a b c d lo hi = decide (hi ≤ 10000) := by simp [armB, h1, h2, h3, h4, h5]

/-- How far the value of s settings is from p / q, times a number that is the same for all s. -/
def offV (a b c d p q s : Int) : Int := ((s * a * c * q - p * (b * d)).natAbs : Int)
/-- The nearest of the first k numbers from lo on. -/
def nearS (f : Int → Int) (lo : Int) : Nat → Int
  | 0 => lo
  | k + 1 => if f (lo + k) < f (nearS f lo k) then lo + k else nearS f lo k
theorem nearS_t {f : Int → Int} {lo : Int} {k : Nat} (h : f (lo + k) < f (nearS f lo k)) : nearS f lo (k + 1) = lo + k := by simp [nearS, h]
theorem nearS_f {f : Int → Int} {lo : Int} {k : Nat} (h : ¬ f (lo + k) < f (nearS f lo k)) : nearS f lo (k + 1) = nearS f lo k := by simp [nearS, h]
theorem nearS_bd (f : Int → Int) (lo : Int) : ∀ k : Nat, lo ≤ nearS f lo k ∧ (nearS f lo k ≤ lo + k - 1 ∨ k = 0 ∧ nearS f lo k = lo)
  | 0 => ⟨by simp [nearS], .inr ⟨rfl, rfl⟩⟩
  | k + 1 => by
    have h := nearS_bd f lo k
    by_cases hc : f (lo + k) < f (nearS f lo k)
    · rw [nearS_t hc]; omega
    · rw [nearS_f hc]; omega
theorem nearS_in (f : Int → Int) (lo hi : Int) (k : Nat) (h : lo ≤ hi) (hk : lo + k ≤ hi + 1) : lo ≤ nearS f lo k ∧ nearS f lo k ≤ hi := by
  have := nearS_bd f lo k; omega
def setV (a b c d lo hi p q : Int) : Int := nearS (offV a b c d p q) lo (hi - lo + 1).toNat

/-- Products that arise: none is too great. -/
theorem arm_mul {a b c d s : Int} (ha : 1 ≤ a ∧ a ≤ 100) (hb : 1 ≤ b ∧ b ≤ 100) (hc : 1 ≤ c ∧ c ≤ 100) (hd : 1 ≤ d ∧ d ≤ 100) (hs : 1 ≤ s ∧ s ≤ 10000) :
    (1 ≤ s * a ∧ s * a ≤ 1000000) ∧ (1 ≤ s * a * c ∧ s * a * c ≤ 100000000) ∧ (1 ≤ b * d ∧ b * d ≤ 10000) := by
  have e1 := @mul_bd s a 10000 100 (by omega) (by omega) (by omega) (by omega) (by omega) (by omega)
  have p1 := Int.mul_pos (show 0 < s by omega) (show 0 < a by omega)
  have e2 := @mul_bd (s * a) c 1000000 100 (by omega) (by omega) (by omega) (by omega) (by omega) (by omega)
  have p2 := Int.mul_pos p1 (show 0 < c by omega)
  have e3 := @mul_bd b d 100 100 (by omega) (by omega) (by omega) (by omega) (by omega) (by omega)
  have p3 := Int.mul_pos (show 0 < b by omega) (show 0 < d by omega)
  omega
theorem arm_off {a b c d s p q : Int} (ha : 1 ≤ a ∧ a ≤ 100) (hb : 1 ≤ b ∧ b ≤ 100) (hc : 1 ≤ c ∧ c ≤ 100) (hd : 1 ≤ d ∧ d ≤ 100) (hs : 1 ≤ s ∧ s ≤ 10000) (hp : -1000000 ≤ p ∧ p ≤ 1000000) (hq : 1 ≤ q ∧ q ≤ 10000000000) :
    (0 ≤ s * a * c * q ∧ s * a * c * q ≤ 1000000000000000000) ∧ (-10000000000 ≤ p * (b * d) ∧ p * (b * d) ≤ 10000000000) := by
  obtain ⟨_, h2, h3⟩ := arm_mul ha hb hc hd hs
  have e1 := @mul_bd (s * a * c) q 100000000 10000000000 (by omega) (by omega) (by omega) (by omega) (by omega) (by omega)
  have p1 := Int.mul_pos (show 0 < s * a * c by omega) (show 0 < q by omega)
  have e2 := @mul_bd p (b * d) 1000000 10000 (by omega) (by omega) (by omega) (by omega) (by omega) (by omega)
  omega
theorem offV_eq (a b c d p q s sc : Int) : ((s * a * c * q * sc * sc - p * (b * d)).natAbs : Int) = offV a b c d p (q * (sc * sc)) s := by
  unfold offV; rw [show s * a * c * q * sc * sc = s * a * c * (q * (sc * sc)) by simp only [Int.mul_assoc]]

/-- The error of an arm that is asked for a setting with a wanted ratio. -/
def wishE (a b c d lo hi p q : Int) (is : Bool) : Int :=
  if armB a b c d lo hi then (if ratB p q then (if is && decide (0 < p) then 0 else 1) else 10) else 11
theorem wishE_1 {a b c d lo hi p q : Int} {is : Bool} (h : armB a b c d lo hi = false) : wishE a b c d lo hi p q is = 11 := by simp [wishE, h]
theorem wishE_2 {a b c d lo hi p q : Int} {is : Bool} (h : armB a b c d lo hi = true) (k : ratB p q = false) : wishE a b c d lo hi p q is = 10 := by simp [wishE, h, k]
theorem wishE_3 {a b c d lo hi p q : Int} {is : Bool} (h : armB a b c d lo hi = true) (k : ratB p q = true) (l : is = false) : wishE a b c d lo hi p q is = 1 := by simp [wishE, h, k, l]
theorem wishE_4 {a b c d lo hi p q : Int} {is : Bool} (h : armB a b c d lo hi = true) (k : ratB p q = true) (l : p ≤ 0) : wishE a b c d lo hi p q is = 1 := by simp [wishE, h, k]; omega
theorem wishE_0 {a b c d lo hi p q : Int} {is : Bool} (h : armB a b c d lo hi = true) (k : ratB p q = true) (l : is = true) (m : 0 < p) : wishE a b c d lo hi p q is = 0 := by simp [wishE, h, k, l, m]
theorem wishE_ok {a b c d lo hi p q : Int} {is : Bool} (h : wishE a b c d lo hi p q is = 0) : armB a b c d lo hi = true ∧ ratB p q = true ∧ is = true ∧ 0 < p := by
  unfold wishE at h
  split at h
  · split at h
    · split at h
      · rename_i h1 h2 h3; simp only [Bool.and_eq_true, decide_eq_true_eq] at h3; exact ⟨h1, h2, h3⟩
      · omega
    · omega
  · omega
def setR (a b c d lo hi p q : Int) : IE := if wishE a b c d lo hi p q true = 0 then ⟨setV a b c d lo hi p q, 0⟩ else ⟨0, wishE a b c d lo hi p q true⟩
def scaleR (a b c d lo hi sc p q : Int) : IE := if wishE a b c d lo hi p q (btw sc 1 100) = 0 then ⟨setV a b c d lo hi p (q * (sc * sc)), 0⟩ else ⟨0, wishE a b c d lo hi p q (btw sc 1 100)⟩
def offR (a b c d lo hi s p q : Int) : RE := if wishE a b c d lo hi p q (btw s lo hi) = 0 then told (offV a b c d p q s) (p * (b * d)) else ⟨0, 0, wishE a b c d lo hi p q (btw s lo hi)⟩
def valueR (a b c d lo hi s : Int) : RE := if armB a b c d lo hi then (if btw s lo hi then told (s * a * c) (b * d) else ⟨0, 0, 1⟩) else ⟨0, 0, 11⟩

end Go.Proofs.Ytfboiplpfkommaa
