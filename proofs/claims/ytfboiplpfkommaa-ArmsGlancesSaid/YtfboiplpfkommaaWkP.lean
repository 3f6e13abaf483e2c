/- Plain mathematics: the examples of the chapter; the nearest setting is the first nearest one. -/
import Derived.Test.YtfboiplpfkommaaArmP
import Derived.Test.YtfboiplpfkommaaBestP
import Derived.Test.YtfboiplpfkommaaVerP
namespace Go.Proofs.Ytfboiplpfkommaa

theorem nearS_min (f : Int → Int) (lo : Int) : ∀ (k : Nat) (s : Int), lo ≤ s → s < lo + k → f (nearS f lo k) ≤ f s ∧ (s < nearS f lo k → f (nearS f lo k) < f s)
  | 0, s, h1, h2 => by omega
  | k + 1, s, h1, h2 => by
    by_cases hs : s < lo + k
    · have ih := nearS_min f lo k s h1 hs
      by_cases hc : f (lo + k) < f (nearS f lo k)
      · rw [nearS_t hc]; exact ⟨by omega, fun _ => by omega⟩
      · rw [nearS_f hc]; exact ih
    · have e : s = lo + k := by omega
      subst e
      by_cases hc : f (lo + k) < f (nearS f lo k)
      · rw [nearS_t hc]; exact ⟨by omega, fun h => by omega⟩
      · rw [nearS_f hc]
        have hb := nearS_bd f lo k
        exact ⟨by omega, fun h => by omega⟩
/-- The nearest setting lies between the ends; none is nearer, and none before it is as near. -/
theorem setV_spec {a b c d lo hi p q : Int} (h : lo ≤ hi) : (lo ≤ setV a b c d lo hi p q ∧ setV a b c d lo hi p q ≤ hi) ∧
    ∀ s, lo ≤ s → s ≤ hi → offV a b c d p q (setV a b c d lo hi p q) ≤ offV a b c d p q s ∧ (s < setV a b c d lo hi p q → offV a b c d p q (setV a b c d lo hi p q) < offV a b c d p q s) :=
  ⟨nearS_in _ lo hi _ h (by omega), fun s h1 h2 => nearS_min _ lo _ s h1 (by omega)⟩

theorem ex_add : addV 1 6 1 3 = ⟨1, 2, 0⟩ := RE.of (by decide +kernel) (by decide +kernel) (by decide +kernel)
theorem ex_best : bestV 355 113 10 = ⟨22, 7, 0⟩ := RE.of (by decide +kernel) (by decide +kernel) (by decide +kernel)
theorem ex_set : setR 1 2 3 10 10 200 7 1 = ⟨47, 0⟩ := by
  have hw : wishE 1 2 3 10 10 200 7 1 true = 0 := by decide +kernel
  have h := @setV_spec 1 2 3 10 10 200 7 1 (by omega)
  have h1 := (h.2 47 (by omega) (by omega)).1
  have h2 : setV 1 2 3 10 10 200 7 1 = 47 := by
    simp only [offV] at h1
    omega
  simp [setR, hw, h2]
def exG : List Gl := [⟨4, 7⟩, ⟨4, 8⟩]
theorem ex_truths : ∀ j : Nat, truths 10 1 exG (50 + j) = [47, 48]
  | 0 => by decide +kernel
  | j + 1 => by
    have ih := ex_truths j
    rw [show 50 + (j + 1) = (50 + j) + 1 by omega, truths_succ, ih]
    have : truthB 10 1 ((50 + j : Nat) : Int) exG = false := by
      simp only [truthB, exG, List.all_cons, atB]
      rw [decide_eq_false (show ¬ (4 : Int) = ((50 + j : Nat) : Int) / 10 by omega)]
      simp
    rw [this]; rfl
theorem ex_settings : settingsL 10 1 exG = [47, 48] ∧ settingsE 10 1 exG = 0 := by
  have h1 : verB 10 1 = true := by decide
  have h2 : glB 10 exG = true := by decide
  have h3 := ex_truths 9951
  rw [show 50 + 9951 = 10001 by omega] at h3
  simp [settingsL, settingsE, h1, h2, h3]

end Go.Proofs.Ytfboiplpfkommaa
