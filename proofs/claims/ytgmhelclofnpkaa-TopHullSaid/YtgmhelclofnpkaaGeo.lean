/- Plain: a simple polygon whose corners lie in different rows, row by row: what its sides take of a row, and that its area is not 0. -/
namespace Go.Proofs.Ytgmhelclofnpkaa
namespace Geo

/-- Sum over all i below n. -/
def S : Nat → (Nat → Int) → Int
  | 0, _ => 0
  | n + 1, f => S n f + f n
theorem S_congr {f g : Nat → Int} : ∀ n, (∀ i, i < n → f i = g i) → S n f = S n g
  | 0, _ => rfl
  | n + 1, h => by rw [S, S, S_congr n fun i hi => h i (by omega), h n (by omega)]
theorem S_add (f g : Nat → Int) : ∀ n, S n (fun i => f i + g i) = S n f + S n g
  | 0 => rfl
  | n + 1 => by rw [S, S, S, S_add f g n]; omega
theorem S_mul (c : Int) (f : Nat → Int) : ∀ n, S n (fun i => c * f i) = c * S n f
  | 0 => by simp [S]
  | n + 1 => by rw [S, S, S_mul c f n, Int.mul_add]
theorem S_zero : ∀ n, S n (fun _ => 0) = 0
  | 0 => rfl
  | n + 1 => by rw [S, S_zero n]; rfl
theorem S_tele (f : Nat → Int) : ∀ n, S n (fun i => f (i + 1) - f i) = f n - f 0
  | 0 => by simp [S]
  | n + 1 => by rw [S, S_tele f n]; omega
theorem S_shift (f : Nat → Int) (n : Nat) (h : f n = f 0) : S n (fun i => f (i + 1)) = S n f := by
  have h1 := S_tele f n
  have h2 : S n (fun i => f (i + 1) - f i) = S n (fun i => f (i + 1)) + S n (fun i => (-1) * f i) := by
    rw [← S_add]; exact S_congr n fun i _ => by omega
  rw [S_mul] at h2
  omega
theorem S_swap (f : Nat → Nat → Int) (m : Nat) : ∀ n, S n (fun i => S m (fun k => f i k)) = S m (fun k => S n (fun i => f i k))
  | 0 => by rw [S]; exact (S_zero m).symm
  | n + 1 => by
    rw [S, S_swap f m n, ← S_add]
    exact S_congr m fun k _ => rfl
theorem S_nonneg {f : Nat → Int} : ∀ n, (∀ i, i < n → 0 ≤ f i) → 0 ≤ S n f
  | 0, _ => Int.le_refl 0
  | n + 1, h => by
    have h1 := S_nonneg n fun i hi => h i (by omega)
    have h2 := h n (by omega)
    rw [S]; omega
theorem S_le {f g : Nat → Int} : ∀ n, (∀ i, i < n → f i ≤ g i) → S n f ≤ S n g
  | 0, _ => Int.le_refl 0
  | n + 1, h => by
    have h1 := S_le n fun i hi => h i (by omega)
    have h2 := h n (by omega)
    rw [S, S]; omega
theorem S_one {f g : Nat → Int} {m : Nat} : ∀ n, m < n → (∀ i, i < n → i ≠ m → f i = g i) → S n f = S n g + f m - g m
  | 0, h, _ => by omega
  | n + 1, h, k => by
    rw [S, S]
    by_cases e : m = n
    · subst e
      rw [S_congr m fun i hi => k i (by omega) (by omega)]
      omega
    · rw [S_one n (by omega) fun i hi ne => k i (by omega) ne, k n (by omega) (fun x => e x.symm)]
      omega
theorem S_pos {f : Nat → Int} {n m : Nat} (hm : m < n) (h : ∀ i, i < n → 0 ≤ f i) (hp : 0 < f m) : 0 < S n f := by
  have h1 := S_one (f := f) (g := fun i => if i = m then 0 else f i) n hm (fun i _ ne => by simp [ne])
  have h2 := S_nonneg (f := fun i => if i = m then 0 else f i) n (fun i hi => by
    show 0 ≤ if i = m then 0 else f i
    split
    · exact Int.le_refl 0
    · exact h i hi)
  simp only [if_true] at h1
  omega

/-- 1 if it is so. -/
def b2 (p : Prop) [Decidable p] : Int := if p then 1 else 0
theorem b2_t {p : Prop} [Decidable p] (h : p) : b2 p = 1 := if_pos h
theorem b2_f {p : Prop} [Decidable p] (h : ¬ p) : b2 p = 0 := if_neg h
theorem b2_iff {p q : Prop} [Decidable p] [Decidable q] (h : p ↔ q) : b2 p = b2 q := by
  by_cases k : p
  · rw [b2_t k, b2_t (h.1 k)]
  · rw [b2_f k, b2_f (fun x => k (h.2 x))]
/-- The sign of a count. -/
def sg (n : Int) : Int := if n % 2 = 0 then 1 else -1
theorem sg_even {a b : Int} (h : (a + b) % 2 = 0) : sg a = sg b := by
  unfold sg
  by_cases k : a % 2 = 0
  · rw [if_pos k, if_pos (by omega)]
  · rw [if_neg k, if_neg (by omega)]
theorem sg_odd {a b : Int} (h : (a + b) % 2 = 1) : sg a = - sg b := by
  unfold sg
  by_cases k : a % 2 = 0
  · rw [if_pos k, if_neg (by omega)]; rfl
  · rw [if_neg k, if_pos (by omega)]

/-- Numbers with signs by their ranks: together they are none, and what they weigh. -/
theorem alt (n : Nat) (Z : Nat → Int) : ∀ (N : Nat) (c : Nat → Bool), (∀ i j, i < n → j < n → c i = true → c j = true → Z i = Z j → i = j) → S n (fun i => b2 (c i = true)) = N →
    S n (fun i => if c i = true then sg (S n fun j => b2 (c j = true ∧ Z j < Z i)) else 0) = (N % 2 : Nat) ∧
    (N % 2 = 0 → ∀ lo hi, lo ≤ hi → (∀ i, i < n → c i = true → lo ≤ Z i ∧ Z i ≤ hi) → lo - hi ≤ S n (fun i => if c i = true then sg (S n fun j => b2 (c j = true ∧ Z j < Z i)) * Z i else 0)) ∧
    (N % 2 = 0 → S n (fun i => if c i = true then sg (S n fun j => b2 (c j = true ∧ Z j < Z i)) * Z i else 0) ≤ 0) ∧
    (N % 2 = 0 → 0 < N → S n (fun i => if c i = true then sg (S n fun j => b2 (c j = true ∧ Z j < Z i)) * Z i else 0) < 0) ∧
    (N % 2 = 1 → ∀ lo, (∀ i, i < n → c i = true → lo ≤ Z i) → lo ≤ S n (fun i => if c i = true then sg (S n fun j => b2 (c j = true ∧ Z j < Z i)) * Z i else 0)) ∧
    (N % 2 = 1 → ∀ hi, (∀ i, i < n → c i = true → Z i ≤ hi) → S n (fun i => if c i = true then sg (S n fun j => b2 (c j = true ∧ Z j < Z i)) * Z i else 0) ≤ hi)
  | 0, c, _, h0 => by
    have hc : ∀ i, i < n → c i = false := by
      intro i hi
      cases e : c i with
      | false => rfl
      | true =>
        have := S_pos (f := fun i => b2 (c i = true)) hi (fun i _ => by show 0 ≤ b2 _; unfold b2; split <;> omega) (by show 0 < b2 _; rw [b2_t e]; omega)
        omega
    have z1 : ∀ g : Nat → Int, S n (fun i => if c i = true then g i else 0) = 0 := fun g => by
      rw [S_congr n (g := fun _ => 0) fun i hi => by simp [hc i hi], S_zero]
    rw [z1, z1]
    exact ⟨rfl, fun _ lo hi h _ => by omega, fun _ => by omega, fun _ h => by omega, fun h => by omega, fun h => by omega⟩
  | N + 1, c, inj, h0 => by
    -- the greatest one
    have hmax : ∀ k, k ≤ n → (∀ i, i < k → c i = false) ∨ ∃ m, m < k ∧ c m = true ∧ ∀ i, i < k → c i = true → Z i ≤ Z m := by
      intro k
      induction k with
      | zero => intro _; exact Or.inl fun i hi => by omega
      | succ k ih =>
        intro hk
        rcases ih (by omega) with h | ⟨m, hm, hc, hz⟩
        · cases e : c k with
          | false => exact Or.inl fun i hi => by by_cases x : i = k; (· subst x; exact e); exact h i (by omega)
          | true => exact Or.inr ⟨k, by omega, e, fun i hi ci => by
              by_cases x : i = k
              · subst x; exact Int.le_refl _
              · rw [h i (by omega)] at ci; cases ci⟩
        · by_cases e : c k = true ∧ Z m < Z k
          · exact Or.inr ⟨k, by omega, e.1, fun i hi ci => by
              by_cases x : i = k
              · subst x; exact Int.le_refl _
              · have := hz i (by omega) ci; omega⟩
          · exact Or.inr ⟨m, by omega, hc, fun i hi ci => by
              by_cases x : i = k
              · subst x
                by_cases y : Z m < Z i
                · exact absurd ⟨ci, y⟩ e
                · omega
              · exact hz i (by omega) ci⟩
    rcases hmax n (Nat.le_refl n) with hno | ⟨m, hm, hc, hz⟩
    · rw [S_congr n (g := fun _ => 0) fun i hi => by rw [hno i hi]; rfl, S_zero] at h0
      omega
    · -- take it away
      have hc' : ∀ i, (decide (c i = true ∧ i ≠ m)) = true ↔ c i = true ∧ i ≠ m := fun i => decide_eq_true_iff
      have hstrict : ∀ i, i < n → c i = true → i ≠ m → Z i < Z m := fun i hi ci ne => by
        have := hz i hi ci
        by_cases e : Z i = Z m
        · exact absurd (inj i m hi hm ci hc e) ne
        · omega
      have hcnt : S n (fun i => b2 (decide (c i = true ∧ i ≠ m) = true)) = N := by
        have := S_one (f := fun i => b2 (c i = true)) (g := fun i => b2 (decide (c i = true ∧ i ≠ m) = true)) n hm (fun i _ ne => b2_iff (by rw [hc']; exact ⟨fun h => ⟨h, ne⟩, fun h => h.1⟩))
        rw [h0] at this
        simp only [b2_t hc] at this
        rw [b2_f (p := decide (c m = true ∧ m ≠ m) = true) (by rw [hc']; exact fun h => h.2 rfl)] at this
        omega
      obtain ⟨e1, e2, e3, e4, e5, e6⟩ := alt n Z N (fun i => decide (c i = true ∧ i ≠ m)) (fun i j hi hj ci cj => inj i j hi hj ((hc' i).1 ci).1 ((hc' j).1 cj).1) hcnt
      -- the ranks of the others
      have hrank : ∀ i, i < n → c i = true → (S n fun j => b2 (decide (c j = true ∧ j ≠ m) = true ∧ Z j < Z i)) = S n fun j => b2 (c j = true ∧ Z j < Z i) := by
        intro i hi ci
        refine S_congr n fun j hj => b2_iff ?_
        rw [hc']
        constructor
        · rintro ⟨⟨h, _⟩, k⟩; exact ⟨h, k⟩
        · rintro ⟨h, k⟩
          refine ⟨⟨h, ?_⟩, k⟩
          rintro rfl
          have := hz i hi ci
          omega
      have hrm : (S n fun j => b2 (c j = true ∧ Z j < Z m)) = N := by
        rw [← hcnt]
        refine S_congr n fun j hj => b2_iff ?_
        rw [hc']
        constructor
        · rintro ⟨h, k⟩; exact ⟨h, by rintro rfl; omega⟩
        · rintro ⟨h, k⟩; exact ⟨h, hstrict j hj h k⟩
      have hsg : sg (N : Int) = if N % 2 = 0 then 1 else -1 := by
        unfold sg
        by_cases e : N % 2 = 0
        · rw [if_pos e, if_pos (by omega)]
        · rw [if_neg e, if_neg (by omega)]
      have hsum : ∀ g : Nat → Int, S n (fun i => if c i = true then sg (S n fun j => b2 (c j = true ∧ Z j < Z i)) * g i else 0) =
          S n (fun i => if decide (c i = true ∧ i ≠ m) = true then sg (S n fun j => b2 (decide (c j = true ∧ j ≠ m) = true ∧ Z j < Z i)) * g i else 0) + sg N * g m := by
        intro g
        have := S_one (f := fun i => if c i = true then sg (S n fun j => b2 (c j = true ∧ Z j < Z i)) * g i else 0)
          (g := fun i => if decide (c i = true ∧ i ≠ m) = true then sg (S n fun j => b2 (decide (c j = true ∧ j ≠ m) = true ∧ Z j < Z i)) * g i else 0) n hm (fun i hi ne => by
            by_cases ci : c i = true
            · show (if c i = true then _ else _) = if decide (c i = true ∧ i ≠ m) = true then _ else _
              rw [if_pos ci, if_pos ((hc' i).2 ⟨ci, ne⟩), hrank i hi ci]
            · show (if c i = true then _ else _) = if decide (c i = true ∧ i ≠ m) = true then _ else _
              rw [if_neg ci, if_neg (fun h => ci ((hc' i).1 h).1)])
        rw [this]
        have k1 : (if c m = true then sg (S n fun j => b2 (c j = true ∧ Z j < Z m)) * g m else 0) = sg N * g m := by rw [if_pos hc, hrm]
        have k2 : (if decide (c m = true ∧ m ≠ m) = true then sg (S n fun j => b2 (decide (c j = true ∧ j ≠ m) = true ∧ Z j < Z m)) * g m else 0) = 0 := if_neg (fun h => ((hc' m).1 h).2 rfl)
        show _ + (if c m = true then _ else _) - (if decide (c m = true ∧ m ≠ m) = true then _ else _) = _
        rw [k1, k2]
        omega
      have hone := hsum (fun _ => 1)
      simp only [Int.mul_one] at hone
      rw [e1] at hone
      have hw := hsum Z
      have hb' : ∀ i, i < n → decide (c i = true ∧ i ≠ m) = true → c i = true ∧ i ≠ m := fun i _ h => (hc' i).1 h
      refine ⟨by rw [hone, hsg]; split <;> omega, ?_, ?_, ?_, ?_, ?_⟩
      · intro hN lo hi hlh hb
        have := e5 (by omega) lo (fun i hi ci => (hb i hi (hb' i hi ci).1).1)
        have hm2 := hb m hm hc
        rw [hw, hsg, if_neg (by omega)]
        omega
      · intro hN
        have := e6 (by omega) (Z m) (fun i hi ci => hz i hi (hb' i hi ci).1)
        rw [hw, hsg, if_neg (by omega)]
        omega
      · intro hN _
        have := e6 (by omega) (Z m - 1) (fun i hi ci => by have := hstrict i hi (hb' i hi ci).1 (hb' i hi ci).2; omega)
        rw [hw, hsg, if_neg (by omega)]
        omega
      · intro hN lo hb
        have := e2 (by omega) lo (Z m) (hb m hm hc) (fun i hi ci => ⟨hb i hi (hb' i hi ci).1, hz i hi (hb' i hi ci).1⟩)
        rw [hw, hsg, if_pos (by omega)]
        omega
      · intro hN hi hb
        have := e3 (by omega)
        have hm2 := hb m hm hc
        rw [hw, hsg, if_pos (by omega)]
        omega

/-- Twice the area of the corner j and the side i. -/
def tn (x y : Nat → Int) (i j : Nat) : Int := (x (i + 1) - x i) * (y j - y i) - (y (i + 1) - y i) * (x j - x i)
def hs (x y : Nat → Int) (i j : Nat) : Prop := tn x y i j = 0 ∧ ((y i ≤ y j ∧ y j ≤ y (i + 1)) ∨ (y (i + 1) ≤ y j ∧ y j ≤ y i))
def ap (x y : Nat → Int) (i j : Nat) : Prop := (tn x y i j < 0 ∧ 0 < tn x y i (j + 1)) ∨ (0 < tn x y i j ∧ tn x y i (j + 1) < 0)
/-- A polygon of n corners, numbered around and around, whose sides have no point in common that they should not have, and whose corners lie in different rows. D, q: a number that all heights of sides divide. -/
structure Gen (n : Nat) (x y q : Nat → Int) (D : Int) : Prop where
  n3 : 3 ≤ n
  px : ∀ i, x (i + n) = x i
  py : ∀ i, y (i + n) = y i
  pq : ∀ i, q (i + n) = q i
  dy : ∀ i j, i < n → j < n → y i = y j → i = j
  D0 : 0 < D
  hq : ∀ i, q i * (y (i + 1) - y i) = D
  nb1 : ∀ i, ¬ hs x y i (i + 2)
  nb2 : ∀ i, ¬ hs x y (i + 1) i
  far : ∀ i j, i < n → j < n → i ≠ j → j ≠ (i + 1) % n → i ≠ (j + 1) % n → ¬ hs x y i j ∧ ¬ hs x y i (j + 1) ∧ ¬ hs x y j i ∧ ¬ hs x y j (i + 1) ∧ ¬ (ap x y i j ∧ ap x y j i)

/-- Where the side i is in the row t / 2, times 2 D. -/
def Z (x y q : Nat → Int) (D : Int) (i : Nat) (t : Int) : Int := 2 * D * x i + q i * (x (i + 1) - x i) * (t - 2 * y i)
/-- The side i goes through between the rows k and k + 1. -/
def cov (y : Nat → Int) (i : Nat) (k : Int) : Prop := (y i ≤ k ∧ k + 1 ≤ y (i + 1)) ∨ (y (i + 1) ≤ k ∧ k + 1 ≤ y i)
instance (y : Nat → Int) (i : Nat) (k : Int) : Decidable (cov y i k) := by unfold cov; infer_instance
def dir (y : Nat → Int) (i : Nat) : Int := if y i < y (i + 1) then 1 else -1

theorem lin_in {c b s u t : Int} (h1 : c + s * b < 0) (h2 : c + u * b < 0) (hs : s ≤ t) (hu : t ≤ u) : c + t * b < 0 := by
  by_cases hb : 0 ≤ b
  · have := Int.mul_le_mul_of_nonneg_right hu hb; omega
  · have := Int.mul_le_mul_of_nonpos_right hs (show b ≤ 0 by omega); omega
theorem lin_slope {c b s u : Int} (h1 : c + s * b < 0) (h2 : 0 < c + u * b) (hsu : s ≤ u) : 0 < b := by
  by_cases hb : 0 < b
  · exact hb
  · have := Int.mul_le_mul_of_nonpos_right hsu (show b ≤ 0 by omega); omega
theorem lin_out {c b s t : Int} (hb : 0 ≤ b) (h : t ≤ s) : c + t * b ≤ c + s * b := by
  have := Int.mul_le_mul_of_nonneg_right h hb; omega
theorem lin_zero {c b s u t : Int} (h1 : c + s * b = 0) (h2 : c + u * b < 0) (ht : (s < t ∧ t ≤ u) ∨ (u ≤ t ∧ t < s)) : c + t * b < 0 := by
  rcases ht with ⟨h3, h4⟩ | ⟨h3, h4⟩
  · have hb : b < 0 := by
      by_cases hb : b < 0
      · exact hb
      · have := Int.mul_le_mul_of_nonneg_right (show s ≤ u by omega) (show 0 ≤ b by omega); omega
    have := Int.mul_lt_mul_of_neg_right h3 hb; omega
  · have hb : 0 < b := by
      by_cases hb : 0 < b
      · exact hb
      · have := Int.mul_le_mul_of_nonpos_right (show u ≤ s by omega) (show b ≤ 0 by omega); omega
    have := Int.mul_lt_mul_of_pos_right h4 hb; omega
theorem sign_opp {q a b : Int} (h1 : q * a < 0) (h2 : 0 < q * b) : (a < 0 ∧ 0 < b) ∨ (0 < a ∧ b < 0) := by
  rcases Int.lt_trichotomy q 0 with h | h | h
  · have ha : 0 < a := by
      by_cases k : 0 < a
      · exact k
      · have := Int.mul_nonneg_of_nonpos_of_nonpos (show q ≤ 0 by omega) (show a ≤ 0 by omega); omega
    have hb : b < 0 := by
      by_cases k : b < 0
      · exact k
      · have := Int.mul_nonpos_of_nonpos_of_nonneg (show q ≤ 0 by omega) (show 0 ≤ b by omega); omega
    exact Or.inr ⟨ha, hb⟩
  · subst h; omega
  · have ha : a < 0 := by
      by_cases k : a < 0
      · exact k
      · have := Int.mul_nonneg (show 0 ≤ q by omega) (show 0 ≤ a by omega); omega
    have hb : 0 < b := by
      by_cases k : 0 < b
      · exact k
      · have := Int.mul_nonpos_of_nonneg_of_nonpos (show 0 ≤ q by omega) (show b ≤ 0 by omega); omega
    exact Or.inl ⟨ha, hb⟩

section
variable {n : Nat} {x y q : Nat → Int} {D : Int} (G : Gen n x y q D)
include G

theorem Z_lin (i : Nat) (t : Int) : Z x y q D i t = Z x y q D i 0 + t * (q i * (x (i + 1) - x i)) := by have _g := G; unfold Z; grind
theorem Z_tn (i j : Nat) : Z x y q D i (2 * y j) - 2 * D * x j = 2 * (q i * tn x y i j) := by
  have := G.hq i
  unfold Z tn; grind
theorem Z_own (i : Nat) : Z x y q D i (2 * y i) = 2 * D * x i := by have _g := G; unfold Z; grind
theorem Z_nxt (i : Nat) : Z x y q D i (2 * y (i + 1)) = 2 * D * x (i + 1) := by
  have := G.hq i
  unfold Z; grind
theorem Z_per (i : Nat) (t : Int) : Z x y q D (i + n) t = Z x y q D i t := by
  unfold Z
  rw [G.px, G.pq, G.py, show i + n + 1 = i + 1 + n by omega, G.px]
theorem y_ne (i : Nat) : y (i + 1) ≠ y i := by
  intro e
  have h := G.hq i
  rw [e, Int.sub_self, Int.mul_zero] at h
  have := G.D0; omega
theorem q_ne (i : Nat) : q i ≠ 0 := by
  intro e
  have h := G.hq i
  rw [e, Int.zero_mul] at h
  have := G.D0; omega
theorem qt_ne {i : Nat} {a : Int} (h : a ≠ 0) : q i * a ≠ 0 := Int.mul_ne_zero (q_ne G i) h
/-- The lower and the upper end of a side. -/
theorem lu (i : Nat) : ∃ l u, ((l = i ∧ u = i + 1) ∨ (l = i + 1 ∧ u = i)) ∧ y l < y u ∧ Z x y q D i (2 * y l) = 2 * D * x l ∧ Z x y q D i (2 * y u) = 2 * D * x u ∧ (∀ k, cov y i k ↔ y l ≤ k ∧ k + 1 ≤ y u) ∧ (∀ j, hs x y i j ↔ tn x y i j = 0 ∧ y l ≤ y j ∧ y j ≤ y u) := by
  have h := y_ne G i
  by_cases e : y i < y (i + 1)
  · refine ⟨i, i + 1, Or.inl ⟨rfl, rfl⟩, e, Z_own G i, Z_nxt G i, fun k => ?_, fun j => ?_⟩
    · unfold cov; omega
    · unfold hs
      constructor
      · rintro ⟨h1, h2⟩; exact ⟨h1, by omega⟩
      · rintro ⟨h1, h2⟩; exact ⟨h1, by omega⟩
  · refine ⟨i + 1, i, Or.inr ⟨rfl, rfl⟩, by omega, Z_nxt G i, Z_own G i, fun k => ?_, fun j => ?_⟩
    · unfold cov; omega
    · unfold hs
      constructor
      · rintro ⟨h1, h2⟩; exact ⟨h1, by omega⟩
      · rintro ⟨h1, h2⟩; exact ⟨h1, by omega⟩
theorem ap_of {i j l u : Nat} (h : (l = j ∧ u = j + 1) ∨ (l = j + 1 ∧ u = j)) (hs : (q i * tn x y i l < 0 ∧ 0 < q i * tn x y i u) ∨ (q i * tn x y i u < 0 ∧ 0 < q i * tn x y i l)) : ap x y i j := by
  have _g := G
  unfold ap
  rcases hs with ⟨h1, h2⟩ | ⟨h1, h2⟩ <;> have := sign_opp h1 h2 <;> rcases h with ⟨rfl, rfl⟩ | ⟨rfl, rfl⟩ <;> omega
/-- Two sides that have no corner in common keep apart from row to row. -/
theorem keep_far (i j : Nat) (hi : ∀ v, v = j ∨ v = j + 1 → ¬ hs x y i v) (hj : ∀ v, v = i ∨ v = i + 1 → ¬ hs x y j v) (hap : ¬ (ap x y i j ∧ ap x y j i)) (k : Int) (ci : cov y i k) (cj : cov y j k) :
    (∀ t, 2 * k ≤ t → t ≤ 2 * k + 2 → Z x y q D i t < Z x y q D j t) ∨ (∀ t, 2 * k ≤ t → t ≤ 2 * k + 2 → Z x y q D j t < Z x y q D i t) := by
  obtain ⟨li, ui, hlu, hyi, zl, zu, hc, hh⟩ := lu G i
  obtain ⟨lj, uj, klu, hyj, yl, yu, kc, kh⟩ := lu G j
  obtain ⟨c1, c2⟩ := (hc k).1 ci
  obtain ⟨d1, d2⟩ := (kc k).1 cj
  obtain ⟨c, b, hF⟩ : ∃ c b, ∀ t, Z x y q D i t - Z x y q D j t = c + t * b := ⟨Z x y q D i 0 - Z x y q D j 0, q i * (x (i + 1) - x i) - q j * (x (j + 1) - x j), fun t => by have := Z_lin G i t; have := Z_lin G j t; have := Int.mul_sub t (q i * (x (i + 1) - x i)) (q j * (x (j + 1) - x j)); omega⟩
  have eli : c + 2 * y li * b = - (2 * (q j * tn x y j li)) := by have := Z_tn G j li; have := hF (2 * y li); omega
  have eui : c + 2 * y ui * b = - (2 * (q j * tn x y j ui)) := by have := Z_tn G j ui; have := hF (2 * y ui); omega
  have elj : c + 2 * y lj * b = 2 * (q i * tn x y i lj) := by have := Z_tn G i lj; have := hF (2 * y lj); omega
  have euj : c + 2 * y uj * b = 2 * (q i * tn x y i uj) := by have := Z_tn G i uj; have := hF (2 * y uj); omega
  have nli : y lj ≤ y li → c + 2 * y li * b ≠ 0 := fun h e => by
    have : tn x y j li ≠ 0 := fun h0 => hj li (by omega) ((kh li).2 ⟨h0, h, by omega⟩)
    have := qt_ne G (i := j) this; omega
  have nui : y ui ≤ y uj → c + 2 * y ui * b ≠ 0 := fun h e => by
    have : tn x y j ui ≠ 0 := fun h0 => hj ui (by omega) ((kh ui).2 ⟨h0, by omega, h⟩)
    have := qt_ne G (i := j) this; omega
  have nlj : y li ≤ y lj → c + 2 * y lj * b ≠ 0 := fun h e => by
    have : tn x y i lj ≠ 0 := fun h0 => hi lj (by omega) ((hh lj).2 ⟨h0, h, by omega⟩)
    have := qt_ne G (i := i) this; omega
  have nuj : y uj ≤ y ui → c + 2 * y uj * b ≠ 0 := fun h e => by
    have : tn x y i uj ≠ 0 := fun h0 => hi uj (by omega) ((hh uj).2 ⟨h0, by omega, h⟩)
    have := qt_ne G (i := i) this; omega
  -- the last lower end, the first upper end
  obtain ⟨lo, hlo1, hlo2, hlo3, hlo4⟩ : ∃ lo, y li ≤ lo ∧ y lj ≤ lo ∧ lo ≤ k ∧ c + 2 * lo * b ≠ 0 := by
    by_cases h : y lj ≤ y li
    · exact ⟨y li, by omega, by omega, by omega, nli h⟩
    · exact ⟨y lj, by omega, by omega, by omega, nlj (by omega)⟩
  obtain ⟨hi', hhi1, hhi2, hhi3, hhi4⟩ : ∃ u, u ≤ y ui ∧ u ≤ y uj ∧ k + 1 ≤ u ∧ c + 2 * u * b ≠ 0 := by
    by_cases h : y ui ≤ y uj
    · exact ⟨y ui, by omega, by omega, by omega, nui h⟩
    · exact ⟨y uj, by omega, by omega, by omega, nuj (by omega)⟩
  have hnot : ¬ ((c + 2 * lo * b < 0 ∧ 0 < c + 2 * hi' * b) ∨ (0 < c + 2 * lo * b ∧ c + 2 * hi' * b < 0)) := by
    rintro (⟨h1, h2⟩ | ⟨h1, h2⟩)
    · have hb := lin_slope h1 h2 (by omega)
      have a1 := lin_out (c := c) (Int.le_of_lt hb) (show 2 * y li ≤ 2 * lo by omega)
      have a2 := lin_out (c := c) (Int.le_of_lt hb) (show 2 * y lj ≤ 2 * lo by omega)
      have a3 := lin_out (c := c) (Int.le_of_lt hb) (show 2 * hi' ≤ 2 * y ui by omega)
      have a4 := lin_out (c := c) (Int.le_of_lt hb) (show 2 * hi' ≤ 2 * y uj by omega)
      exact hap ⟨ap_of G klu (Or.inl ⟨by omega, by omega⟩), ap_of G hlu (Or.inr ⟨by omega, by omega⟩)⟩
    · have hb := lin_slope (c := -c) (b := -b) (s := 2 * lo) (u := 2 * hi') (by rw [Int.mul_neg]; omega) (by rw [Int.mul_neg]; omega) (by omega)
      have a1 := lin_out (c := -c) (Int.le_of_lt hb) (show 2 * y li ≤ 2 * lo by omega)
      have a2 := lin_out (c := -c) (Int.le_of_lt hb) (show 2 * y lj ≤ 2 * lo by omega)
      have a3 := lin_out (c := -c) (Int.le_of_lt hb) (show 2 * hi' ≤ 2 * y ui by omega)
      have a4 := lin_out (c := -c) (Int.le_of_lt hb) (show 2 * hi' ≤ 2 * y uj by omega)
      simp only [Int.mul_neg] at a1 a2 a3 a4
      exact hap ⟨ap_of G klu (Or.inr ⟨by omega, by omega⟩), ap_of G hlu (Or.inl ⟨by omega, by omega⟩)⟩
  by_cases hs : c + 2 * lo * b < 0
  · refine Or.inl fun t h1 h2 => ?_
    have := lin_in (t := t) hs (show c + 2 * hi' * b < 0 by omega) (by omega) (by omega)
    have := hF t; omega
  · refine Or.inr fun t h1 h2 => ?_
    have := lin_in (c := -c) (b := -b) (t := t) (s := 2 * lo) (u := 2 * hi') (by rw [Int.mul_neg]; omega) (by rw [Int.mul_neg]; omega) (by omega) (by omega)
    rw [Int.mul_neg] at this
    have := hF t; omega
/-- Two sides that follow each other keep apart but for the corner that they have in common. -/
theorem keep_next (i : Nat) (k : Int) (ci : cov y i k) (cj : cov y (i + 1) k) :
    (∀ t, 2 * k ≤ t → t ≤ 2 * k + 2 → t ≠ 2 * y (i + 1) → Z x y q D i t < Z x y q D (i + 1) t) ∨ (∀ t, 2 * k ≤ t → t ≤ 2 * k + 2 → t ≠ 2 * y (i + 1) → Z x y q D (i + 1) t < Z x y q D i t) := by
  obtain ⟨li, ui, hlu, hyi, zl, zu, hc, hh⟩ := lu G i
  obtain ⟨lj, uj, klu, hyj, yl, yu, kc, kh⟩ := lu G (i + 1)
  obtain ⟨c1, c2⟩ := (hc k).1 ci
  obtain ⟨d1, d2⟩ := (kc k).1 cj
  obtain ⟨c, b, hF⟩ : ∃ c b, ∀ t, Z x y q D i t - Z x y q D (i + 1) t = c + t * b := ⟨Z x y q D i 0 - Z x y q D (i + 1) 0, q i * (x (i + 1) - x i) - q (i + 1) * (x (i + 1 + 1) - x (i + 1)), fun t => by have := Z_lin G i t; have := Z_lin G (i + 1) t; have := Int.mul_sub t (q i * (x (i + 1) - x i)) (q (i + 1) * (x (i + 1 + 1) - x (i + 1))); omega⟩
  have e0 : c + 2 * y (i + 1) * b = 0 := by
    have := hF (2 * y (i + 1))
    have := Z_nxt G i
    have := Z_own G (i + 1)
    omega
  -- the other end of the shorter one
  obtain ⟨u, hu, hne⟩ : ∃ u, ((y (i + 1) ≤ k ∧ k + 1 ≤ u) ∨ (u ≤ k ∧ k + 1 ≤ y (i + 1))) ∧ c + 2 * u * b ≠ 0 := by
    have a1 : (y lj ≤ y i ∧ y i ≤ y uj) → c + 2 * y i * b ≠ 0 := fun h e => by
      have : tn x y (i + 1) i ≠ 0 := fun h0 => G.nb2 i ((kh i).2 ⟨h0, h.1, h.2⟩)
      have := qt_ne G (i := i + 1) this
      have := Z_tn G (i + 1) i
      have := Z_own G i
      have := hF (2 * y i)
      omega
    have a2 : (y li ≤ y (i + 2) ∧ y (i + 2) ≤ y ui) → c + 2 * y (i + 2) * b ≠ 0 := fun h e => by
      have : tn x y i (i + 2) ≠ 0 := fun h0 => G.nb1 i ((hh (i + 2)).2 ⟨h0, h.1, h.2⟩)
      have := qt_ne G (i := i) this
      have := Z_tn G i (i + 2)
      have := Z_nxt G (i + 1)
      have := hF (2 * y (i + 2))
      have : i + 1 + 1 = i + 2 := rfl
      rw [this] at *
      omega
    have e2 : i + 1 + 1 = i + 2 := rfl
    rw [e2] at klu
    rcases hlu with ⟨rfl, rfl⟩ | ⟨rfl, rfl⟩ <;> rcases klu with ⟨rfl, rfl⟩ | ⟨rfl, rfl⟩
    · omega
    · by_cases h : y (li + 2) ≤ y li
      · exact ⟨y li, by omega, a1 ⟨h, by omega⟩⟩
      · exact ⟨y (li + 2), by omega, a2 ⟨by omega, by omega⟩⟩
    · by_cases h : y ui ≤ y (ui + 2)
      · exact ⟨y ui, by omega, a1 ⟨by omega, h⟩⟩
      · exact ⟨y (ui + 2), by omega, a2 ⟨by omega, by omega⟩⟩
    · omega
  by_cases hs : c + 2 * u * b < 0
  · refine Or.inl fun t h1 h2 h3 => ?_
    have := lin_zero (t := t) e0 hs (by omega)
    have := hF t; omega
  · refine Or.inr fun t h1 h2 h3 => ?_
    have := lin_zero (c := -c) (b := -b) (t := t) (s := 2 * y (i + 1)) (u := 2 * u) (by rw [Int.mul_neg]; omega) (by rw [Int.mul_neg]; omega) (by omega)
    rw [Int.mul_neg] at this
    have := hF t; omega
end
section
variable {n : Nat} {x y q : Nat → Int} {D : Int} (G : Gen n x y q D)
include G

theorem per_mod {f : Nat → Int} (h : ∀ i, f (i + n) = f i) {i : Nat} (hi : i < n) : f ((i + 1) % n) = f (i + 1) := by
  have _g := G
  by_cases e : i + 1 < n
  · rw [Nat.mod_eq_of_lt e]
  · have : i + 1 = n := by omega
    rw [this, Nat.mod_self]
    have := h 0
    rw [Nat.zero_add] at this
    exact this.symm
theorem mod_lt (i : Nat) : (i + 1) % n < n := Nat.mod_lt _ (by have := G.n3; omega)
theorem mod_inj {i j : Nat} (hi : i < n) (hj : j < n) (h : (i + 1) % n = (j + 1) % n) : i = j := by
  have _g := G
  by_cases e : i + 1 < n <;> by_cases f : j + 1 < n
  · rw [Nat.mod_eq_of_lt e, Nat.mod_eq_of_lt f] at h; omega
  · rw [Nat.mod_eq_of_lt e, show j + 1 = n by omega, Nat.mod_self] at h; omega
  · rw [Nat.mod_eq_of_lt f, show i + 1 = n by omega, Nat.mod_self] at h; omega
  · omega
theorem mod_ne {i : Nat} (hi : i < n) : i ≠ (i + 1) % n := by
  have := G.n3
  by_cases e : i + 1 < n
  · rw [Nat.mod_eq_of_lt e]; omega
  · rw [show i + 1 = n by omega, Nat.mod_self]; omega
theorem Z_mod {i : Nat} (hi : i < n) (t : Int) : Z x y q D ((i + 1) % n) t = Z x y q D (i + 1) t := per_mod (f := fun i => Z x y q D i t) G (fun i => Z_per G i t) hi
theorem y_mod {i : Nat} (hi : i < n) : y ((i + 1) % n) = y (i + 1) := per_mod G G.py hi
theorem y_mod2 {i : Nat} (hi : i < n) : y ((i + 1) % n + 1) = y (i + 2) := per_mod (f := fun i => y (i + 1)) G (fun i => by rw [show i + n + 1 = i + 1 + n by omega]; exact G.py _) hi
theorem x_mod {i : Nat} (hi : i < n) : x ((i + 1) % n) = x (i + 1) := per_mod G G.px hi
theorem cov_mod {i : Nat} (hi : i < n) (k : Int) : cov y ((i + 1) % n) k ↔ cov y (i + 1) k := by
  unfold cov; rw [y_mod G hi, y_mod2 G hi]
/-- The corner of two sides in the row t / 2. -/
def shared (n : Nat) (y : Nat → Int) (i j : Nat) (t : Int) : Prop := (j = (i + 1) % n ∧ t = 2 * y (i + 1)) ∨ (i = (j + 1) % n ∧ t = 2 * y (j + 1))
instance (n : Nat) (y : Nat → Int) (i j : Nat) (t : Int) : Decidable (shared n y i j t) := by unfold shared; infer_instance
theorem shared_eq {i j : Nat} (hi : i < n) (hj : j < n) {t : Int} (h : shared n y i j t) : Z x y q D i t = Z x y q D j t := by
  rcases h with ⟨rfl, rfl⟩ | ⟨rfl, rfl⟩
  · rw [Z_mod G hi, Z_nxt G, Z_own G (i + 1)]
  · rw [Z_mod G hj, Z_nxt G, Z_own G (j + 1)]
/-- Two sides keep apart from row to row, but for a corner that they have in common. -/
theorem keep {i j : Nat} (hi : i < n) (hj : j < n) (ne : i ≠ j) (k : Int) (ci : cov y i k) (cj : cov y j k) :
    (∀ t, 2 * k ≤ t → t ≤ 2 * k + 2 → ¬ shared n y i j t → Z x y q D i t < Z x y q D j t) ∨ (∀ t, 2 * k ≤ t → t ≤ 2 * k + 2 → ¬ shared n y i j t → Z x y q D j t < Z x y q D i t) := by
  by_cases a : j = (i + 1) % n
  · subst a
    rcases keep_next G i k ci ((cov_mod G hi k).1 cj) with h | h
    · exact Or.inl fun t h1 h2 h3 => by rw [Z_mod G hi]; exact h t h1 h2 fun e => h3 (Or.inl ⟨rfl, e⟩)
    · exact Or.inr fun t h1 h2 h3 => by rw [Z_mod G hi]; exact h t h1 h2 fun e => h3 (Or.inl ⟨rfl, e⟩)
  · by_cases b : i = (j + 1) % n
    · subst b
      rcases keep_next G j k cj ((cov_mod G hj k).1 ci) with h | h
      · exact Or.inr fun t h1 h2 h3 => by rw [Z_mod G hj]; exact h t h1 h2 fun e => h3 (Or.inr ⟨rfl, e⟩)
      · exact Or.inl fun t h1 h2 h3 => by rw [Z_mod G hj]; exact h t h1 h2 fun e => h3 (Or.inr ⟨rfl, e⟩)
    · obtain ⟨f1, f2, f3, f4, f5⟩ := G.far i j hi hj ne a b
      rcases keep_far G i j (fun v h => by rcases h with h | h <;> rw [h]; (· exact f1); exact f2) (fun v h => by rcases h with h | h <;> rw [h]; (· exact f3); exact f4) f5 k ci cj with h | h
      · exact Or.inl fun t h1 h2 _ => h t h1 h2
      · exact Or.inr fun t h1 h2 _ => h t h1 h2
theorem not_mid {i j : Nat} (k : Int) : ¬ shared n y i j (2 * k + 1) := by have _g := G; unfold shared; omega
/-- How many sides of a row are to the left of a side. -/
def rk (n : Nat) (x y q : Nat → Int) (D : Int) (i : Nat) (k : Int) : Int := S n fun j => b2 (cov y j k ∧ Z x y q D j (2 * k + 1) < Z x y q D i (2 * k + 1))
/-- How many sides of the rows k and k + 1 meet the row l to the left of z. -/
def cl (n : Nat) (x y q : Nat → Int) (D : Int) (k l z : Int) : Int := S n fun j => b2 (cov y j k ∧ Z x y q D j (2 * l) < z)
theorem cl_even (l z : Int) : (cl n x y q D (l - 1) l z + cl n x y q D l l z) % 2 = 0 := by
  have h : cl n x y q D (l - 1) l z + cl n x y q D l l z = S n (fun j => b2 (y j = l ∧ 2 * D * x j < z)) + S n (fun j => b2 (y (j + 1) = l ∧ 2 * D * x (j + 1) < z)) + 2 * S n (fun j => b2 (((y j < l ∧ l < y (j + 1)) ∨ (y (j + 1) < l ∧ l < y j)) ∧ Z x y q D j (2 * l) < z)) := by
    unfold cl
    rw [← S_mul, ← S_add, ← S_add, ← S_add]
    refine S_congr n fun j _ => ?_
    have hne := y_ne G j
    by_cases e0 : y j = l
    · have hz : Z x y q D j (2 * l) = 2 * D * x j := by rw [← e0]; exact Z_own G j
      rw [hz, b2_f (p := y (j + 1) = l ∧ _) (fun h => by omega), b2_f (p := ((y j < l ∧ l < y (j + 1)) ∨ (y (j + 1) < l ∧ l < y j)) ∧ _) (fun h => by omega)]
      by_cases e1 : y (j + 1) < l
      · rw [b2_f (p := cov y j l ∧ _) (fun h => by have := h.1; unfold cov at this; omega), b2_iff (p := cov y j (l - 1) ∧ 2 * D * x j < z) (q := y j = l ∧ 2 * D * x j < z) ⟨fun h => ⟨e0, h.2⟩, fun h => ⟨by unfold cov; omega, h.2⟩⟩]
        omega
      · rw [b2_f (p := cov y j (l - 1) ∧ _) (fun h => by have := h.1; unfold cov at this; omega), b2_iff (p := cov y j l ∧ 2 * D * x j < z) (q := y j = l ∧ 2 * D * x j < z) ⟨fun h => ⟨e0, h.2⟩, fun h => ⟨by unfold cov; omega, h.2⟩⟩]
        omega
    · by_cases e1 : y (j + 1) = l
      · have hz : Z x y q D j (2 * l) = 2 * D * x (j + 1) := by rw [← e1]; exact Z_nxt G j
        rw [hz, b2_f (p := y j = l ∧ _) (fun h => e0 h.1), b2_f (p := ((y j < l ∧ l < y (j + 1)) ∨ (y (j + 1) < l ∧ l < y j)) ∧ _) (fun h => by omega)]
        by_cases e2 : y j < l
        · rw [b2_f (p := cov y j l ∧ _) (fun h => by have := h.1; unfold cov at this; omega), b2_iff (p := cov y j (l - 1) ∧ 2 * D * x (j + 1) < z) (q := y (j + 1) = l ∧ 2 * D * x (j + 1) < z) ⟨fun h => ⟨e1, h.2⟩, fun h => ⟨by unfold cov; omega, h.2⟩⟩]
          omega
        · rw [b2_f (p := cov y j (l - 1) ∧ _) (fun h => by have := h.1; unfold cov at this; omega), b2_iff (p := cov y j l ∧ 2 * D * x (j + 1) < z) (q := y (j + 1) = l ∧ 2 * D * x (j + 1) < z) ⟨fun h => ⟨e1, h.2⟩, fun h => ⟨by unfold cov; omega, h.2⟩⟩]
          omega
      · rw [b2_f (p := y j = l ∧ _) (fun h => e0 h.1), b2_f (p := y (j + 1) = l ∧ _) (fun h => e1 h.1)]
        rw [b2_iff (p := cov y j (l - 1) ∧ Z x y q D j (2 * l) < z) (q := ((y j < l ∧ l < y (j + 1)) ∨ (y (j + 1) < l ∧ l < y j)) ∧ Z x y q D j (2 * l) < z) (and_congr (by unfold cov; omega) Iff.rfl),
          b2_iff (p := cov y j l ∧ Z x y q D j (2 * l) < z) (q := ((y j < l ∧ l < y (j + 1)) ∨ (y (j + 1) < l ∧ l < y j)) ∧ Z x y q D j (2 * l) < z) (and_congr (by unfold cov; omega) Iff.rfl)]
        omega
  have h2 : S n (fun j => b2 (y (j + 1) = l ∧ 2 * D * x (j + 1) < z)) = S n (fun j => b2 (y j = l ∧ 2 * D * x j < z)) :=
    S_shift (fun j => b2 (y j = l ∧ 2 * D * x j < z)) n (by
      have a := G.px 0
      have b := G.py 0
      rw [Nat.zero_add] at a b
      show b2 (y n = l ∧ 2 * D * x n < z) = b2 (y 0 = l ∧ 2 * D * x 0 < z)
      rw [a, b])
  omega
/-- The rank by what is to the left in the row l. -/
theorem rk_cl {i : Nat} (hi : i < n) {k l : Int} (ci : cov y i k) (hl : l = k ∨ l = k + 1) :
    rk n x y q D i k = cl n x y q D k l (Z x y q D i (2 * l)) + S n fun j => b2 (shared n y i j (2 * l) ∧ cov y j k ∧ Z x y q D j (2 * k + 1) < Z x y q D i (2 * k + 1)) := by
  unfold rk cl
  rw [← S_add]
  refine S_congr n fun j hj => ?_
  by_cases cj : cov y j k
  · by_cases e : i = j
    · subst e
      rw [b2_f (fun h => by omega), b2_f (fun h => by omega), b2_f (fun h => by omega)]; rfl
    · by_cases hs : shared n y i j (2 * l)
      · rw [b2_f (p := cov y j k ∧ Z x y q D j (2 * l) < _) (fun h => by have := shared_eq G hi hj hs; omega)]
        rw [b2_iff (p := shared n y i j (2 * l) ∧ _) (q := cov y j k ∧ Z x y q D j (2 * k + 1) < Z x y q D i (2 * k + 1)) ⟨fun h => h.2, fun h => ⟨hs, h⟩⟩]
        omega
      · rw [b2_f (p := shared n y i j (2 * l) ∧ _) (fun h => hs h.1)]
        rw [b2_iff (p := cov y j k ∧ Z x y q D j (2 * k + 1) < _) (q := cov y j k ∧ Z x y q D j (2 * l) < Z x y q D i (2 * l))]
        · omega
        · rcases keep G hi hj e k ci cj with h | h
          · have h1 := h (2 * k + 1) (by omega) (by omega) (not_mid G k)
            have h2 := h (2 * l) (by omega) (by omega) hs
            constructor <;> (rintro ⟨_, h3⟩; omega)
          · have h1 := h (2 * k + 1) (by omega) (by omega) (not_mid G k)
            have h2 := h (2 * l) (by omega) (by omega) hs
            exact ⟨fun _ => ⟨cj, h2⟩, fun _ => ⟨cj, h1⟩⟩
  · rw [b2_f (fun h => cj h.1), b2_f (fun h => cj h.1), b2_f (fun h => cj h.2.1)]; rfl
theorem S_only {m : Nat} (hm : m < n) (p : Nat → Prop) [DecidablePred p] (h : ∀ j, j < n → j ≠ m → ¬ p j) : S n (fun j => b2 (p j)) = b2 (p m) := by
  have _g := G
  have := S_one (f := fun j => b2 (p j)) (g := fun _ => 0) n hm fun i hi ne => b2_f (h i hi ne)
  rw [S_zero] at this
  omega
theorem S_none (p : Nat → Prop) [DecidablePred p] (h : ∀ j, j < n → ¬ p j) : S n (fun j => b2 (p j)) = 0 := by
  have _g := G
  rw [S_congr n (g := fun _ => 0) fun j hj => b2_f (h j hj), S_zero]
/-- Along a side. -/
theorem along {i : Nat} (hi : i < n) {k : Int} (c1 : cov y i k) (c2 : cov y i (k + 1)) : sg (rk n x y q D i k) = sg (rk n x y q D i (k + 1)) := by
  have hin : y i ≠ k + 1 ∧ y (i + 1) ≠ k + 1 := by unfold cov at c1 c2; omega
  have hno : ∀ j, j < n → ¬ shared n y i j (2 * (k + 1)) := fun j hj h => by
    rcases h with ⟨rfl, h⟩ | ⟨h, h'⟩
    · omega
    · have := y_mod G hj
      rw [← h] at this; omega
  rw [rk_cl G hi c1 (l := k + 1) (Or.inr rfl), rk_cl G hi c2 (l := k + 1) (Or.inl rfl), S_none G _ (fun j hj h => hno j hj h.1), S_none G _ (fun j hj h => hno j hj h.1)]
  have := cl_even G (k + 1) (Z x y q D i (2 * (k + 1)))
  rw [show k + 1 - 1 = k by omega] at this
  refine sg_even ?_
  omega
theorem along_all {i : Nat} (hi : i < n) (k : Int) : ∀ m : Nat, cov y i k → cov y i (k + m) → sg (rk n x y q D i k) = sg (rk n x y q D i (k + m))
  | 0, _, _ => by simp
  | m + 1, c1, c2 => by
    have c3 : cov y i (k + m) := by unfold cov at c1 c2 ⊢; omega
    rw [along_all hi k m c1 c3]
    have := along G hi (k := k + m) c3 (by rw [show k + (m : Int) + 1 = k + (m + 1 : Nat) by omega]; exact c2)
    rw [this, show k + (m : Int) + 1 = k + (m + 1 : Nat) by omega]
/-- The sign of a side: its direction by its rank. -/
def sig (n : Nat) (x y q : Nat → Int) (D : Int) (i : Nat) (k : Int) : Int := dir y i * sg (rk n x y q D i k)
theorem sig_side {i : Nat} (hi : i < n) {k k' : Int} (c1 : cov y i k) (c2 : cov y i k') : sig n x y q D i k = sig n x y q D i k' := by
  unfold sig
  by_cases h : k ≤ k'
  · obtain ⟨m, hm⟩ : ∃ m : Nat, k' = k + m := ⟨(k' - k).toNat, by omega⟩
    subst hm
    rw [along_all G hi k m c1 c2]
  · obtain ⟨m, hm⟩ : ∃ m : Nat, k = k' + m := ⟨(k - k').toNat, by omega⟩
    subst hm
    rw [along_all G hi k' m c2 c1]
/-- Around a corner. -/
theorem sig_corner {i : Nat} (hi : i < n) : ∃ k k', cov y i k ∧ cov y ((i + 1) % n) k' ∧ sig n x y q D i k = sig n x y q D ((i + 1) % n) k' := by
  have h1 := y_ne G i
  have h2 := y_ne G (i + 1)
  have hf := mod_lt G i
  have hm1 := y_mod G hi
  have hm2 := y_mod2 G hi
  have hne := mod_ne G hi
  obtain ⟨l, hl⟩ : ∃ l, l = y (i + 1) := ⟨_, rfl⟩
  have zi : Z x y q D i (2 * l) = 2 * D * x (i + 1) := by rw [hl]; exact Z_nxt G i
  have zf : Z x y q D ((i + 1) % n) (2 * l) = 2 * D * x (i + 1) := by rw [hl, Z_mod G hi]; exact Z_own G (i + 1)
  have si : ∀ j, j < n → j ≠ (i + 1) % n → ¬ shared n y i j (2 * l) := fun j hj ne h => by
    rcases h with ⟨h, _⟩ | ⟨h, h'⟩
    · exact ne h
    · have := y_mod G hj
      rw [← h] at this; omega
  have sf : ∀ j, j < n → j ≠ i → ¬ shared n y ((i + 1) % n) j (2 * l) := fun j hj ne h => by
    rcases h with ⟨_, h⟩ | ⟨h, h'⟩
    · have : y (i + 1 + 1) = y (i + 2) := rfl
      omega
    · exact ne (mod_inj G hj hi h.symm)
  have si' : shared n y i ((i + 1) % n) (2 * l) := Or.inl ⟨rfl, by rw [hl]⟩
  have sf' : shared n y ((i + 1) % n) i (2 * l) := Or.inr ⟨rfl, by rw [hl]⟩
  have hy2 : y (i + 1 + 1) = y (i + 2) := rfl
  have ri := fun k ci h => rk_cl G hi (k := k) (l := l) ci h
  have rf := fun k cf h => rk_cl G hf (k := k) (l := l) cf h
  rw [zi] at ri
  rw [zf] at rf
  have ev := cl_even G l (2 * D * x (i + 1))
  have one_i : ∀ k, S n (fun j => b2 (shared n y i j (2 * l) ∧ cov y j k ∧ Z x y q D j (2 * k + 1) < Z x y q D i (2 * k + 1))) = b2 (cov y ((i + 1) % n) k ∧ Z x y q D ((i + 1) % n) (2 * k + 1) < Z x y q D i (2 * k + 1)) := fun k => by
    rw [S_only G hf _ (fun j hj ne h => si j hj ne h.1)]
    exact b2_iff ⟨fun h => h.2, fun h => ⟨si', h⟩⟩
  have one_f : ∀ k, S n (fun j => b2 (shared n y ((i + 1) % n) j (2 * l) ∧ cov y j k ∧ Z x y q D j (2 * k + 1) < Z x y q D ((i + 1) % n) (2 * k + 1))) = b2 (cov y i k ∧ Z x y q D i (2 * k + 1) < Z x y q D ((i + 1) % n) (2 * k + 1)) := fun k => by
    rw [S_only G hi _ (fun j hj ne h => sf j hj ne h.1)]
    exact b2_iff ⟨fun h => h.2, fun h => ⟨sf', h⟩⟩
  -- both in the same two rows
  have same : ∀ k, (l = k ∨ l = k + 1) → cov y i k → cov y ((i + 1) % n) k → dir y i = - dir y ((i + 1) % n) → sig n x y q D i k = sig n x y q D ((i + 1) % n) k := fun k hk ci cf hd => by
    unfold sig
    rw [ri k ci hk, rf k cf hk, one_i, one_f, hd]
    have hz := keep G hi hf hne k ci cf
    have hz : Z x y q D i (2 * k + 1) < Z x y q D ((i + 1) % n) (2 * k + 1) ∨ Z x y q D ((i + 1) % n) (2 * k + 1) < Z x y q D i (2 * k + 1) := hz.imp (fun h => h _ (by omega) (by omega) (not_mid G k)) (fun h => h _ (by omega) (by omega) (not_mid G k))
    rcases hz with hz | hz
    · rw [b2_f (p := cov y ((i + 1) % n) k ∧ _) (fun h => by omega), b2_t ⟨ci, hz⟩, Int.add_zero, sg_odd (a := cl n x y q D k l (2 * D * x (i + 1))) (b := cl n x y q D k l (2 * D * x (i + 1)) + 1) (by omega)]
      rw [Int.neg_mul_neg]
    · rw [b2_t ⟨cf, hz⟩, b2_f (p := cov y i k ∧ _) (fun h => by omega), Int.add_zero, sg_odd (a := cl n x y q D k l (2 * D * x (i + 1)) + 1) (b := cl n x y q D k l (2 * D * x (i + 1))) (by omega)]
      rw [Int.neg_mul_neg]
  by_cases hi1 : y i < l <;> by_cases hf1 : y (i + 2) < l
  · have ci : cov y i (l - 1) := by unfold cov; omega
    have cf : cov y ((i + 1) % n) (l - 1) := by unfold cov; omega
    exact ⟨l - 1, l - 1, ci, cf, same _ (by omega) ci cf (by unfold dir; rw [if_pos (by omega), if_neg (by omega)]; rfl)⟩
  · have ci : cov y i (l - 1) := by unfold cov; omega
    have cf : cov y ((i + 1) % n) l := by unfold cov; omega
    refine ⟨l - 1, l, ci, cf, ?_⟩
    unfold sig
    rw [ri _ ci (by omega), rf _ cf (by omega), one_i, one_f, b2_f (p := cov y ((i + 1) % n) (l - 1) ∧ _) (fun h => by have := h.1; unfold cov at this; omega), b2_f (p := cov y i l ∧ _) (fun h => by have := h.1; unfold cov at this; omega), Int.add_zero, Int.add_zero]
    rw [sg_even ev]
    unfold dir; rw [if_pos (by omega), if_pos (by omega)]
  · have ci : cov y i l := by unfold cov; omega
    have cf : cov y ((i + 1) % n) (l - 1) := by unfold cov; omega
    refine ⟨l, l - 1, ci, cf, ?_⟩
    unfold sig
    rw [ri _ ci (by omega), rf _ cf (by omega), one_i, one_f, b2_f (p := cov y ((i + 1) % n) l ∧ _) (fun h => by have := h.1; unfold cov at this; omega), b2_f (p := cov y i (l - 1) ∧ _) (fun h => by have := h.1; unfold cov at this; omega), Int.add_zero, Int.add_zero]
    rw [← sg_even ev]
    unfold dir; rw [if_neg (by omega), if_neg (by omega)]
  · have ci : cov y i l := by unfold cov; omega
    have cf : cov y ((i + 1) % n) l := by unfold cov; omega
    exact ⟨l, l, ci, cf, same _ (by omega) ci cf (by unfold dir; rw [if_neg (by omega), if_pos (by omega)])⟩
theorem has_cov (i : Nat) : ∃ k, cov y i k := by
  have := y_ne G i
  by_cases h : y i < y (i + 1)
  · exact ⟨y i, Or.inl ⟨by omega, by omega⟩⟩
  · exact ⟨y (i + 1), Or.inr ⟨by omega, by omega⟩⟩
theorem dir_pm (i : Nat) : dir y i = 1 ∨ dir y i = -1 := by have _g := G; unfold dir; split <;> simp
theorem sg_pm (a : Int) : sg a = 1 ∨ sg a = -1 := by have _g := G; unfold sg; split <;> simp
/-- One sign for all sides. -/
theorem one_sign : ∃ s : Int, (s = 1 ∨ s = -1) ∧ ∀ i, i < n → ∀ k, cov y i k → dir y i = s * sg (rk n x y q D i k) := by
  obtain ⟨k0, c0⟩ := has_cov G 0
  have h3 := G.n3
  have key : ∀ i, i < n → ∀ k, cov y i k → sig n x y q D i k = sig n x y q D 0 k0 := by
    intro i
    induction i with
    | zero => intro hi k ck; exact sig_side G hi ck c0
    | succ i ih =>
      intro hi k ck
      obtain ⟨a, b, ca, cb, e⟩ := sig_corner G (i := i) (by omega)
      rw [Nat.mod_eq_of_lt hi] at e cb
      rw [sig_side G hi ck cb, ← e]
      exact ih (by omega) a ca
  refine ⟨sig n x y q D 0 k0, ?_, fun i hi k ck => ?_⟩
  · unfold sig
    rcases dir_pm G 0 with h | h <;> rcases sg_pm G (rk n x y q D 0 k0) with k | k <;> rw [h, k] <;> simp
  · rw [← key i hi k ck]
    unfold sig
    rcases sg_pm G (rk n x y q D i k) with h | h <;> rw [h] <;> simp
/-- What the sides take of two rows that follow each other. -/
def V (n : Nat) (x y q : Nat → Int) (D : Int) (k : Int) : Int := S n fun i => if cov y i k then dir y i * Z x y q D i (2 * k + 1) else 0
theorem dirs_none (k : Int) : S n (fun i => if cov y i k then dir y i else 0) = 0 := by
  have h : ∀ i, i < n → (if cov y i k then dir y i else 0) = (fun i => b2 (k + 1 ≤ y i)) (i + 1) - (fun i => b2 (k + 1 ≤ y i)) i := by
    intro i _
    have hne := y_ne G i
    show (if cov y i k then dir y i else 0) = b2 (k + 1 ≤ y (i + 1)) - b2 (k + 1 ≤ y i)
    by_cases a : k + 1 ≤ y i <;> by_cases b : k + 1 ≤ y (i + 1)
    · rw [if_neg (by unfold cov; omega), b2_t a, b2_t b]; rfl
    · rw [if_pos (show cov y i k by unfold cov; omega), b2_t a, b2_f b]; unfold dir; rw [if_neg (by omega)]; rfl
    · rw [if_pos (show cov y i k by unfold cov; omega), b2_f a, b2_t b]; unfold dir; rw [if_pos (by omega)]; rfl
    · rw [if_neg (by unfold cov; omega), b2_f a, b2_f b]; rfl
  rw [S_congr n h, S_tele (fun i => b2 (k + 1 ≤ y i))]
  have := G.py 0
  rw [Nat.zero_add] at this
  simp only [this]
  omega
/-- What the sides take of each pair of rows has one sign, and is not wider than the sides are apart. -/
theorem rows : ∃ s : Int, (s = 1 ∨ s = -1) ∧ ∀ k, 0 ≤ s * V n x y q D k ∧ (∀ i, i < n → cov y i k → 0 < s * V n x y q D k) ∧
    ∀ lo hi, lo ≤ hi → (∀ i, i < n → cov y i k → lo ≤ Z x y q D i (2 * k + 1) ∧ Z x y q D i (2 * k + 1) ≤ hi) → s * V n x y q D k ≤ hi - lo := by
  obtain ⟨s, hs, hd⟩ := one_sign G
  have hss : s * s = 1 := by rcases hs with rfl | rfl <;> rfl
  refine ⟨-s, by omega, fun k => ?_⟩
  obtain ⟨N, hN⟩ : ∃ N : Nat, S n (fun i => b2 (decide (cov y i k) = true)) = N := ⟨(S n (fun i => b2 (decide (cov y i k) = true))).toNat, by
    have := S_nonneg (f := fun i => b2 (decide (cov y i k) = true)) n (fun i _ => by show 0 ≤ b2 _; unfold b2; split <;> omega)
    omega⟩
  obtain ⟨e1, e2, e3, e4, _, _⟩ := alt n (fun i => Z x y q D i (2 * k + 1)) N (fun i => decide (cov y i k)) (fun i j hi hj ci cj e => by
    by_cases ne : i = j
    · exact ne
    · rcases keep G hi hj ne k (of_decide_eq_true ci) (of_decide_eq_true cj) with h | h
      · have := h _ (by omega) (by omega) (not_mid G k); omega
      · have := h _ (by omega) (by omega) (not_mid G k); omega) hN
  have hr : ∀ i, (S n fun j => b2 (decide (cov y j k) = true ∧ Z x y q D j (2 * k + 1) < Z x y q D i (2 * k + 1))) = rk n x y q D i k := fun i => S_congr n fun j _ => b2_iff (by rw [decide_eq_true_iff])
  have hsum : ∀ g : Nat → Int, S n (fun i => if cov y i k then dir y i * g i else 0) = s * S n (fun i => if decide (cov y i k) = true then sg (S n fun j => b2 (decide (cov y j k) = true ∧ Z x y q D j (2 * k + 1) < Z x y q D i (2 * k + 1))) * g i else 0) := by
    intro g
    rw [← S_mul]
    refine S_congr n fun i hi => ?_
    by_cases c : cov y i k
    · rw [if_pos c, if_pos (decide_eq_true c), hr, hd i hi k c, Int.mul_assoc]
    · rw [if_neg c, if_neg (by rw [decide_eq_true_iff]; exact c), Int.mul_zero]
  have h1 := hsum (fun _ => 1)
  simp only [Int.mul_one] at h1
  rw [dirs_none G k, e1] at h1
  have hN2 : N % 2 = 0 := by
    rcases Nat.mod_two_eq_zero_or_one N with h | h
    · exact h
    · rw [h] at h1; rcases hs with rfl | rfl <;> simp at h1
  have hV := hsum (fun i => Z x y q D i (2 * k + 1))
  have hV' : -s * V n x y q D k = - S n (fun i => if decide (cov y i k) = true then sg (S n fun j => b2 (decide (cov y j k) = true ∧ Z x y q D j (2 * k + 1) < Z x y q D i (2 * k + 1))) * Z x y q D i (2 * k + 1) else 0) := by
    unfold V
    rw [hV, Int.neg_mul, ← Int.mul_assoc, hss, Int.one_mul]
  refine ⟨?_, fun i hi ci => ?_, fun lo hi hl hb => ?_⟩
  · have := e3 hN2; omega
  · have hpos : 0 < N := by
      have := S_pos (f := fun i => b2 (decide (cov y i k) = true)) hi (fun i _ => by show 0 ≤ b2 _; unfold b2; split <;> omega) (by show 0 < b2 _; rw [b2_t (decide_eq_true ci)]; omega)
      omega
    have := e4 hN2 hpos
    omega
  · have := e2 hN2 lo hi hl (fun i hi ci => hb i hi (of_decide_eq_true ci))
    omega
end
section
variable {n : Nat} {x y q : Nat → Int} {D : Int} (G : Gen n x y q D)
include G
def Qa (x y q : Nat → Int) (D : Int) (i : Nat) (t : Int) : Int := 2 * D * x i * t + q i * (x (i + 1) - x i) * ((t - y i) * (t - y i))
theorem Qa_step (i : Nat) (t : Int) : Qa x y q D i (t + 1) = Qa x y q D i t + Z x y q D i (2 * t + 1) := by have _g := G; unfold Qa Z; grind
theorem Qa_ends (i : Nat) : Qa x y q D i (y (i + 1)) - Qa x y q D i (y i) = D * ((x i + x (i + 1)) * (y (i + 1) - y i)) := by
  have := G.hq i
  unfold Qa; grind
theorem side_sum (i : Nat) (K : Int) (hK : K ≤ y i ∧ K ≤ y (i + 1)) : ∀ m : Nat, S m (fun j => if cov y i (K + j) then dir y i * Z x y q D i (2 * (K + j) + 1) else 0) =
    dir y i * (Qa x y q D i (max (min (y i) (y (i + 1))) (min (K + m) (max (y i) (y (i + 1))))) - Qa x y q D i (min (y i) (y (i + 1))))
  | 0 => by
    rw [S, show max (min (y i) (y (i + 1))) (min (K + (0 : Nat)) (max (y i) (y (i + 1)))) = min (y i) (y (i + 1)) by omega, Int.sub_self, Int.mul_zero]
  | m + 1 => by
    rw [S, side_sum i K hK m]
    have hne := y_ne G i
    by_cases c : cov y i (K + m)
    · have c' := c
      unfold cov at c'
      rw [if_pos c, show max (min (y i) (y (i + 1))) (min (K + (m : Int)) (max (y i) (y (i + 1)))) = K + m by omega, show max (min (y i) (y (i + 1))) (min (K + ((m + 1 : Nat) : Int)) (max (y i) (y (i + 1)))) = (K + m) + 1 by omega, Qa_step G]
      rw [← Int.mul_add]
      congr 1
      omega
    · have c' := c
      unfold cov at c'
      rw [if_neg c, Int.add_zero, show max (min (y i) (y (i + 1))) (min (K + ((m + 1 : Nat) : Int)) (max (y i) (y (i + 1)))) = max (min (y i) (y (i + 1))) (min (K + (m : Int)) (max (y i) (y (i + 1)))) by omega]
theorem side_all (i : Nat) (K : Int) (M : Nat) (h0 : K ≤ y i ∧ y i ≤ K + M) (h1 : K ≤ y (i + 1) ∧ y (i + 1) ≤ K + M) :
    S M (fun j => if cov y i (K + j) then dir y i * Z x y q D i (2 * (K + j) + 1) else 0) = D * ((x i + x (i + 1)) * (y (i + 1) - y i)) := by
  have hne := y_ne G i
  rw [side_sum G i K ⟨h0.1, h1.1⟩ M, ← Qa_ends G i]
  by_cases h : y i < y (i + 1)
  · rw [show max (min (y i) (y (i + 1))) (min (K + (M : Int)) (max (y i) (y (i + 1)))) = y (i + 1) by omega, show min (y i) (y (i + 1)) = y i by omega]
    unfold dir
    rw [if_pos h, Int.one_mul]
  · rw [show max (min (y i) (y (i + 1))) (min (K + (M : Int)) (max (y i) (y (i + 1)))) = y i by omega, show min (y i) (y (i + 1)) = y (i + 1) by omega]
    unfold dir
    rw [if_neg h]
    omega
/-- Twice the area. -/
def area (n : Nat) (x y : Nat → Int) : Int := S n fun i => x i * y (i + 1) - x (i + 1) * y i
theorem area_rows (K : Int) (M : Nat) (h : ∀ i, K ≤ y i ∧ y i ≤ K + M) : S M (fun m => V n x y q D (K + m)) = D * area n x y := by
  unfold V
  rw [← S_swap (fun i m => if cov y i (K + (m : Nat)) then dir y i * Z x y q D i (2 * (K + m) + 1) else 0) M n]
  rw [S_congr n (g := fun i => D * (x i * y (i + 1) - x (i + 1) * y i) + D * ((fun i => x i * y i) (i + 1) - (fun i => x i * y i) i)) fun i _ => by
    rw [side_all G i K M (h i) (h (i + 1))]
    simp only
    grind]
  rw [S_add, S_mul, S_mul, S_tele (fun i => x i * y i)]
  have a := G.px 0
  have b := G.py 0
  rw [Nat.zero_add] at a b
  simp only [a, b, Int.sub_self, Int.mul_zero, Int.add_zero]
  rfl
theorem area_ne (K : Int) (M : Nat) (h : ∀ i, K ≤ y i ∧ y i ≤ K + M) : area n x y ≠ 0 := by
  intro e
  obtain ⟨s, hs, hr⟩ := rows G
  have h1 := area_rows G K M h
  rw [e, Int.mul_zero] at h1
  have h2 : S M (fun m => s * V n x y q D (K + m)) = 0 := by rw [S_mul, h1, Int.mul_zero]
  obtain ⟨k, hk⟩ := has_cov G 0
  have hb0 := h 0
  have hb1 := h (0 + 1)
  have h3 := S_pos (f := fun m => s * V n x y q D (K + m)) (n := M) (m := (k - K).toNat) (by unfold cov at hk; omega) (fun m _ => (hr (K + m)).1) (by
    have := (hr k).2.1 0 (by have := G.n3; omega) hk
    rw [show K + ((k - K).toNat : Int) = k by unfold cov at hk; omega]
    exact this)
  omega
end
end Geo
end Go.Proofs.Ytgmhelclofnpkaa
