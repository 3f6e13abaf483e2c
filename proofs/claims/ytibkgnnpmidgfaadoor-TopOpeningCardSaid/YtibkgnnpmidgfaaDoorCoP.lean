/- Plain mathematics: walks along a coast. No program in sight. -/
import Derived.Test.YtibkgnnpmidgfaaDoorPureB
import Derived.Test.YtibkgnnpmidgfaaDoorOpen
namespace Go.Proofs.YtibkgnnpmidgfaaDoor

/-- Dividers with this opening reach from one point to another one. -/
def reachB (a b : Pt) (o : Int) : Bool := decide ((b.1 - a.1) * (b.1 - a.1) + (b.2 - a.2) * (b.2 - a.2) ≤ o * o)
def atB (B : List Pt) (i : Nat) : Pt := B.getD i (0, 0)

/-- What one bend has of k bends from f on. -/
def partM (B : List Pt) (o : Int) (f : Nat) (ms : List Nat) (t : Nat) : Nat → Nat
  | 0 => 0
  | k + 1 => if reachB (atB B (f + k)) (atB B t) o = true then partM B o f ms t k ||| (ms.getD (f + k) 0 <<< 1) else partM B o f ms t k
/-- The numbers of steps of the first bends, as bits. -/
def masks (B : List Pt) (o : Int) (f : Nat) : Nat → List Nat
  | 0 => []
  | t + 1 => masks B o f t ++ [if t < f then 0 else if t = f then 1 else partM B o f (masks B o f t) t (t - f)]
theorem masks_len (B : List Pt) (o : Int) (f : Nat) : ∀ t, (masks B o f t).length = t
  | 0 => rfl
  | t + 1 => by rw [masks, List.length_append, masks_len B o f t]; rfl
/-- The numbers of steps with which bend t is reached, as bits. -/
def mk (B : List Pt) (o : Int) (f t : Nat) : Nat := (masks B o f (t + 1)).getD t 0
theorem masks_get (B : List Pt) (o : Int) (f : Nat) : ∀ n t, t < n → (masks B o f n).getD t 0 = mk B o f t
  | 0, t, h => by omega
  | n + 1, t, h => by
    by_cases e : t = n
    · subst e; rfl
    · rw [masks, ← masks_get B o f n t (by omega)]
      simp only [List.getD_eq_getElem?_getD]
      rw [List.getElem?_append_left (by rw [masks_len]; omega)]
theorem mk_eq (B : List Pt) (o : Int) (f t : Nat) : mk B o f t = if t < f then 0 else if t = f then 1 else partM B o f (masks B o f t) t (t - f) := by
  unfold mk
  rw [masks, List.getD_eq_getElem?_getD, List.getElem?_append_right (by rw [masks_len]; omega), masks_len]
  simp

/-- Is there a walk from bend f to bend t in n steps? -/
def walkB (B : List Pt) (o : Int) (f : Nat) : Nat → Nat → Bool
  | 0, t => decide (t = f)
  | n + 1, t => (List.range t).any fun b => decide (f ≤ b) && reachB (atB B b) (atB B t) o && walkB B o f n b

theorem walkB_ge {B : List Pt} {o : Int} {f : Nat} : ∀ {n t : Nat}, walkB B o f n t = true → f + n ≤ t
  | 0, t, h => by simp [walkB] at h; omega
  | n + 1, t, h => by
    simp only [walkB, List.any_eq_true, List.mem_range, Bool.and_eq_true, decide_eq_true_eq] at h
    obtain ⟨b, hb, ⟨_, _⟩, hw⟩ := h
    have := walkB_ge hw
    omega

theorem partM_bit (B : List Pt) (o : Int) (f : Nat) (ms : List Nat) (t n : Nat) : ∀ k, (partM B o f ms t k).testBit n = true ↔ ∃ j, j < k ∧ reachB (atB B (f + j)) (atB B t) o = true ∧ 1 ≤ n ∧ (ms.getD (f + j) 0).testBit (n - 1) = true
  | 0 => by simp [partM]
  | k + 1 => by
    have ih := partM_bit B o f ms t n k
    unfold partM
    split
    · rename_i hr
      rw [Nat.testBit_or, Bool.or_eq_true, ih, Nat.testBit_shiftLeft]
      constructor
      · rintro (⟨j, h1, h2⟩ | h)
        · exact ⟨j, by omega, h2⟩
        · simp only [ge_iff_le, Bool.and_eq_true, decide_eq_true_eq] at h
          exact ⟨k, by omega, hr, h⟩
      · rintro ⟨j, h1, h2, h3⟩
        by_cases e : j = k
        · subst e; exact Or.inr (by simpa using h3)
        · exact Or.inl ⟨j, by omega, h2, h3⟩
    · rename_i hr
      rw [ih]
      constructor
      · rintro ⟨j, h1, h2⟩; exact ⟨j, by omega, h2⟩
      · rintro ⟨j, h1, h2, h3⟩
        by_cases e : j = k
        · subst e; exact absurd h2 hr
        · exact ⟨j, by omega, h2, h3⟩

theorem mk_bit (B : List Pt) (o : Int) (f : Nat) : ∀ t n, (mk B o f t).testBit n = walkB B o f n t := by
  intro t
  induction t using Nat.strongRecOn with
  | ind t ih =>
    intro n
    rw [mk_eq]
    split
    · rename_i h
      rw [Nat.zero_testBit]
      refine Eq.symm (Bool.eq_false_iff.2 fun h' => ?_)
      have := walkB_ge h'
      omega
    · rename_i h
      split
      · rename_i h1
        subst h1
        cases n with
        | zero => simp [walkB]
        | succ n =>
          have : (1 : Nat).testBit (n + 1) = false := by rw [Nat.testBit_succ]; simp
          rw [this]
          refine Eq.symm (Bool.eq_false_iff.2 fun h' => ?_)
          have := walkB_ge h'
          omega
      · rename_i h1
        rw [Bool.eq_iff_iff, partM_bit]
        cases n with
        | zero =>
          simp only [walkB, decide_eq_true_eq]
          constructor
          · rintro ⟨_, _, _, h, _⟩; omega
          · intro e; exact absurd e h1
        | succ n =>
          simp only [walkB, List.any_eq_true, List.mem_range, Bool.and_eq_true, decide_eq_true_eq, Nat.add_sub_cancel]
          constructor
          · rintro ⟨j, hj, hr, _, hb⟩
            rw [masks_get B o f t (f + j) (by omega), ih (f + j) (by omega)] at hb
            exact ⟨f + j, by omega, ⟨by omega, hr⟩, hb⟩
          · rintro ⟨b, hb, ⟨hf, hr⟩, hw⟩
            refine ⟨b - f, by omega, by rw [show f + (b - f) = b by omega]; exact hr, by omega, ?_⟩
            rw [show f + (b - f) = b by omega, masks_get B o f t b (by omega), ih b (by omega)]
            exact hw

theorem partM_lt (B : List Pt) (o : Int) (f : Nat) (ms : List Nat) (t N : Nat) (h : ∀ j, ms.getD j 0 < 2 ^ N) : ∀ k, partM B o f ms t k < 2 ^ (N + 1)
  | 0 => by simp [partM]; exact Nat.two_pow_pos _
  | k + 1 => by
    unfold partM
    split
    · refine Nat.or_lt_two_pow (partM_lt B o f ms t N h k) ?_
      rw [Nat.shiftLeft_eq, Nat.pow_succ]
      have := h (f + k)
      omega
    · exact partM_lt B o f ms t N h k
theorem mk_lt (B : List Pt) (o : Int) (f t : Nat) : mk B o f t < 2 ^ (t + 1) := by
  refine Nat.lt_pow_two_of_testBit _ fun i hi => ?_
  rw [mk_bit]
  refine Bool.eq_false_iff.2 fun h => ?_
  have := walkB_ge h
  omega

/-- The numbers of steps, ascending. -/
def bitsL (m : Nat) : List Int := ((List.range 13).filter (m.testBit ·)).map Int.ofNat
/-- The least one; 0: there is none. -/
def lowB (m : Nat) : Nat := ((List.range 13).find? (m.testBit ·)).getD 0


end Go.Proofs.YtibkgnnpmidgfaaDoor
