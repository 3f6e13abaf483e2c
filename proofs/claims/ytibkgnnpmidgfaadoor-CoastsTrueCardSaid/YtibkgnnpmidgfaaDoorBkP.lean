/- Plain mathematics: a coast from its other end. -/
import Derived.Test.YtibkgnnpmidgfaaDoorDh
namespace Go.Proofs.YtibkgnnpmidgfaaDoor

theorem walkB_first {B : List Pt} {o : Int} {f : Nat} : ∀ {n t : Nat}, walkB B o f (n + 1) t = true ↔ ∃ b, f < b ∧ b ≤ t ∧ reachB (atB B f) (atB B b) o = true ∧ walkB B o b n t = true := by
  intro n
  induction n with
  | zero =>
    intro t
    constructor
    · intro h
      obtain ⟨c, h1, h2, h3, h4⟩ := walkB_pred h
      simp [walkB] at h4
      subst h4
      exact ⟨t, h2, Nat.le_refl _, h3, by simp [walkB]⟩
    · rintro ⟨b, h1, h2, h3, h4⟩
      simp [walkB] at h4
      subst h4
      simp only [walkB, List.any_eq_true, List.mem_range, Bool.and_eq_true, decide_eq_true_eq]
      exact ⟨f, h1, ⟨Nat.le_refl _, h3⟩, rfl⟩
  | succ n ih =>
    intro t
    constructor
    · intro h
      obtain ⟨c, h1, h2, h3, h4⟩ := walkB_pred h
      obtain ⟨b, g1, g2, g3, g4⟩ := ih.1 h4
      refine ⟨b, g1, by omega, g3, ?_⟩
      simp only [walkB, List.any_eq_true, List.mem_range, Bool.and_eq_true, decide_eq_true_eq]
      exact ⟨c, h2, ⟨g2, h3⟩, g4⟩
    · rintro ⟨b, g1, g2, g3, g4⟩
      obtain ⟨c, h1, h2, h3, h4⟩ := walkB_pred g4
      show walkB B o f ((n + 1) + 1) t = true
      rw [walkB]
      simp only [List.any_eq_true, List.mem_range, Bool.and_eq_true, decide_eq_true_eq]
      exact ⟨c, h2, ⟨by omega, h3⟩, ih.2 ⟨b, g1, h1, g3, h4⟩⟩
theorem atB_rev {B : List Pt} {i : Nat} (h : i < B.length) : atB B.reverse (B.length - 1 - i) = atB B i := by
  unfold atB
  rw [List.getD_eq_getElem?_getD, List.getD_eq_getElem?_getD, List.getElem?_reverse (by omega), show B.length - 1 - (B.length - 1 - i) = i by omega]
theorem walkB_rev {B : List Pt} {o : Int} {t : Nat} (ht : t < B.length) : ∀ {n f : Nat}, f ≤ t → walkB B.reverse o (B.length - 1 - t) n (B.length - 1 - f) = walkB B o f n t
  | 0, f, h => by simp only [walkB, decide_eq_decide]; omega
  | n + 1, f, h => by
    rw [Bool.eq_iff_iff, walkB_first (B := B)]
    constructor
    · intro hw
      obtain ⟨c, h1, h2, h3, h4⟩ := walkB_pred hw
      obtain ⟨b, rfl⟩ : ∃ b, c = B.length - 1 - b := ⟨B.length - 1 - c, by omega⟩
      by_cases hb : b < B.length
      · rw [atB_rev hb, atB_rev (show f < B.length by omega), reachB_comm] at h3
        rw [walkB_rev ht (show b ≤ t by omega)] at h4
        exact ⟨b, by omega, by omega, h3, h4⟩
      · have e : B.length - 1 - b = B.length - 1 - (B.length - 1) := by omega
        rw [e] at h1 h2 h3 h4
        rw [atB_rev (show B.length - 1 < B.length by omega), atB_rev (show f < B.length by omega), reachB_comm] at h3
        have ht' : t = B.length - 1 := by omega
        rw [walkB_rev ht (show B.length - 1 ≤ t by omega)] at h4
        exact ⟨B.length - 1, by omega, by omega, h3, h4⟩
    · rintro ⟨b, h1, h2, h3, h4⟩
      rw [← walkB_rev ht h2] at h4
      simp only [walkB, List.any_eq_true, List.mem_range, Bool.and_eq_true, decide_eq_true_eq]
      refine ⟨B.length - 1 - b, by omega, ⟨by omega, ?_⟩, h4⟩
      rw [atB_rev (show b < B.length by omega), atB_rev (show f < B.length by omega), reachB_comm]
      exact h3
/-- From the other end the numbers of steps are the same. -/
theorem mk_rev {B : List Pt} {o : Int} {f t : Nat} (hft : f ≤ t) (ht : t < B.length) : mk B.reverse o (B.length - 1 - t) (B.length - 1 - f) = mk B o f t := by
  refine Nat.eq_of_testBit_eq fun n => ?_
  rw [mk_bit, mk_bit]
  exact walkB_rev ht hft

end Go.Proofs.YtibkgnnpmidgfaaDoor
