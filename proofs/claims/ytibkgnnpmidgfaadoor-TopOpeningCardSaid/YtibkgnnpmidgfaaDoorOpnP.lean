/- Plain: the least opening with which one step reaches. -/
import Derived.Test.YtibkgnnpmidgfaaDoorCn
namespace Go.Proofs.YtibkgnnpmidgfaaDoor

theorem low_one {B : List Pt} {o : Int} {f t : Nat} (hft : f < t) (ht : t < 12) : btw (lowN (mk B o f t)) 1 1 = reachB (atB B f) (atB B t) o := by
  have hm := mk_lt13 B o f t ht
  have h0 : (mk B o f t).testBit 0 = false := by
    rw [mk_bit]
    simp only [walkB, decide_eq_false_iff_not]
    omega
  have h1 : (mk B o f t).testBit 1 = reachB (atB B f) (atB B t) o := by
    rw [mk_bit, Bool.eq_iff_iff]
    simp only [walkB, List.any_eq_true, List.mem_range, Bool.and_eq_true, decide_eq_true_eq]
    constructor
    · rintro ⟨b, _, ⟨_, h⟩, e⟩
      subst e; exact h
    · intro h
      exact ⟨f, hft, ⟨Nat.le_refl _, h⟩, rfl⟩
  by_cases hz : mk B o f t = 0
  · rw [← h1, hz]
    simp [lowN_zero, btw]
  · obtain ⟨a, b⟩ := lowN_bit hz hm
    rw [← h1]
    by_cases e : lowN (mk B o f t) = 1
    · rw [e] at a ⊢
      rw [a]; rfl
    · have h2 : (mk B o f t).testBit 1 = false := by
        by_cases e0 : lowN (mk B o f t) = 0
        · rw [e0, h0] at a; cases a
        · exact b 1 (by omega)
      rw [h2]
      simp only [btw, Bool.and_eq_false_iff, decide_eq_false_iff_not]
      omega
/-- The square of the length between two bends. -/
def lenB (B : List Pt) (f t : Nat) : Int := ((atB B t).1 - (atB B f).1) * ((atB B t).1 - (atB B f).1) + ((atB B t).2 - (atB B f).2) * ((atB B t).2 - (atB B f).2)
theorem opn_one {cw : Int} {B D : List Pt} {R : List Rep} {f t : Nat} (h : chkE cw B D R = 0) (hft : f < t) (ht : t < 12) (hp : plB B.length f t = true) :
    (opnE cw B D R f t 1 = 3 ∧ 3600 < lenB B f t) ∨ (opnE cw B D R f t 1 = 0 ∧ ∃ q : Int, opnN cw B D R f t 1 = q ∧ 1 ≤ q ∧ q ≤ 60 ∧ lenB B f t ≤ q * q ∧ (q = 1 ∨ (q - 1) * (q - 1) < lenB B f t)) := by
  have ha : askE cw B D R (askO B f t 1) = 0 := by rw [ask_ok h, if_pos (by unfold askO; rw [hp]; rfl)]
  unfold opnE opnN
  rw [if_pos ha, if_pos ha]
  simp only [Int.toNat_natCast]
  have hr : ∀ i : Nat, btw (lowN (mk B ((i + 1 : Nat) : Int) f t)) 1 1 = decide (lenB B f t ≤ ((i + 1 : Nat) : Int) * ((i + 1 : Nat) : Int)) := fun i => low_one hft ht
  cases hs : opnS B f t 1 with
  | none =>
    left
    refine ⟨rfl, ?_⟩
    unfold opnS at hs
    have := List.find?_eq_none.1 hs 59 (List.mem_range.2 (by omega))
    rw [hr] at this
    simp only [decide_eq_true_eq] at this
    omega
  | some i =>
    right
    unfold opnS at hs
    obtain ⟨h1, k, hk, h2, h3⟩ := List.find?_eq_some_iff_getElem.1 hs
    have hki : k = i := by simpa using h2
    subst hki
    rw [hr, decide_eq_true_eq] at h1
    have hk' : k < 60 := by simpa using hk
    refine ⟨rfl, ((k + 1 : Nat) : Int), rfl, by omega, by omega, h1, ?_⟩
    cases k with
    | zero => exact Or.inl rfl
    | succ j =>
      right
      have h4 := h3 j (by omega)
      simp only [List.getElem_range] at h4
      rw [hr] at h4
      simp only [Bool.not_eq_true', decide_eq_false_iff_not] at h4
      have e : (((j + 1 + 1 : Nat) : Int) - 1) = ((j + 1 : Nat) : Int) := by omega
      rw [e]
      omega
end Go.Proofs.YtibkgnnpmidgfaaDoor
