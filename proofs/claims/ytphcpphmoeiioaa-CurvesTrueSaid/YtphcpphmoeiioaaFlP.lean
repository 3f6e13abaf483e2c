/- Plain: what the law of the flat curve says. -/
import Derived.Test.YtphcpphmoeiioaaWW
namespace Go.Proofs.Ytphcpphmoeiioaa
open Go.RowKit

theorem wide_iff {c : Cv} {p : Nat} {lo hi : Int} (h : IsSp (HtP c p) lo hi) : Wide c p ↔ lo < hi := by
  constructor
  · rintro ⟨x, y, h1, h2, h3⟩
    have := h.2.2 _ h1
    have := h.2.2 _ h2
    omega
  · intro k; exact ⟨lo, hi, h.1, h.2.1, k⟩
theorem told_zero {c : Cv} {ls : List Sp} {m : Int} (hD : DrawL c ls) (hT : ToldL ls m) : m = 0 ↔ ∀ (i : Nat) (s : Sp), ls[i]? = some s → s.1 = s.2 := by
  have hle : ∀ (i : Nat) (s : Sp), ls[i]? = some s → s.1 ≤ s.2 := fun i s hs => ((hD i s hs).2.2 _ (hD i s hs).2.1).1
  constructor
  · rintro rfl i s hs
    have := hT.2.2 s (List.mem_of_getElem? hs)
    have := hle i s hs
    unfold midI at *
    omega
  · intro h
    rcases hT.2.1 with h0 | ⟨s, hs, h0⟩
    · exact h0
    · obtain ⟨i, hi, e⟩ := List.getElem_of_mem hs
      have := h i s (by rw [List.getElem?_eq_getElem hi, e])
      unfold midI at h0
      omega
theorem draw_uniq {c : Cv} {ls ls' : List Sp} (h : DrawL c ls) (h' : DrawL c ls') {i : Nat} {s s' : Sp} (e : ls[i]? = some s) (e' : ls'[i]? = some s') : s = s' := by
  have := (h i s e).uniq (h' i s' e')
  exact Prod.ext this.1 this.2
theorem draw_eq {c : Cv} {ls ls' : List Sp} (h : DrawL c ls) (h' : DrawL c ls') (hl : ls.length = ls'.length) : ls = ls' :=
  List.ext_getElem hl fun i h1 h2 => draw_uniq h h' (List.getElem?_eq_getElem h1) (List.getElem?_eq_getElem h2)
theorem told_flat {c : Cv} (h0 : c.slope ≤ 0) {ls : List Sp} {m lo hi : Int} {p : Nat} (hp : p ≤ c.long) (hD : DrawL c ls) (hl : ls.length = c.long + 1) (hT : ToldL ls m) (hs : IsSp (HtP c p) lo hi) : m = c.long * (hi - lo) := by
  have key : ∀ (i : Nat) (s : Sp), ls[i]? = some s → s.1 = 2 * lo * i ∧ s.2 = 2 * hi * i := fun i s e => by
    have hi' : i ≤ c.long := by have := (List.getElem?_eq_some_iff.1 e).1; omega
    exact (hD i s e).uniq (flat_in h0 hp hi' hs)
  have hle : lo ≤ hi := (hs.2.2 _ hs.2.1).1
  have mid : ∀ (i : Nat) (s : Sp), ls[i]? = some s → midI s.1 s.2 - s.1 = (hi - lo) * i ∧ s.2 - midI s.1 s.2 = (hi - lo) * i := fun i s e => by
    obtain ⟨e1, e2⟩ := key i s e
    have e3 : s.1 = 2 * (lo * i) := by rw [e1, Int.mul_assoc]
    have e4 : s.2 = 2 * (hi * i) := by rw [e2, Int.mul_assoc]
    have e5 : (hi - lo) * i = hi * i - lo * i := Int.sub_mul _ _ _
    rw [e5]
    unfold midI
    omega
  have hm : ∀ (i : Nat), i ≤ c.long → (hi - lo) * i ≤ (hi - lo) * c.long := fun i hi => Int.mul_le_mul_of_nonneg_left (by omega) (by omega)
  obtain ⟨s, es⟩ : ∃ s, ls[c.long]? = some s := ⟨ls[c.long]'(by omega), by simp⟩
  have a1 := hT.2.2 s (List.mem_of_getElem? es)
  have a2 := mid _ s es
  have a3 : m ≤ (hi - lo) * c.long := by
    rcases hT.2.1 with e | ⟨t, ht, e⟩
    · rw [e]; exact Int.mul_nonneg (by omega) (Int.natCast_nonneg _)
    · obtain ⟨i, hi', et⟩ := List.getElem_of_mem ht
      have et' : ls[i]? = some t := by rw [List.getElem?_eq_getElem hi', et]
      have b1 := mid i t et'
      have b2 := hm i (by omega)
      rw [b1.1, b1.2, Int.max_self] at e
      omega
  rw [Int.mul_comm]
  omega
theorem su_no {ls : List Sp} {k : Nat} (h : false = true ↔ ∀ (i : Nat) (s : Sp), i < k → ls[i]? = some s → s.1 = s.2) : false = true ↔ ∀ (i : Nat) (s : Sp), i < k + 1 → ls[i]? = some s → s.1 = s.2 :=
  ⟨(fun h => by cases h), (fun j => h.2 fun i s hi hs => j i s (by omega) hs)⟩
theorem su_yes {ls : List Sp} {k : Nat} {s : Sp} (hs : ls[k]? = some s) (h : True ↔ ∀ (i : Nat) (s : Sp), i < k → ls[i]? = some s → s.1 = s.2) {v : Bool} (hv : v = true ↔ s.1 = s.2) : v = true ↔ ∀ (i : Nat) (s : Sp), i < k + 1 → ls[i]? = some s → s.1 = s.2 := by
  rw [hv]
  constructor
  · intro e i t hi ht
    by_cases ek : i = k
    · subst ek
      rw [hs] at ht
      cases ht
      exact e
    · exact h.1 trivial i t (by omega) ht
  · intro j; exact j k s (by omega) hs
theorem op_yes {W : Nat → Prop} {k : Nat} (h : True ↔ ∃ i, i < k ∧ W i) : true = true ↔ ∃ i, i < k + 1 ∧ W i :=
  ⟨(fun _ => by obtain ⟨i, h1, h2⟩ := h.1 trivial; exact ⟨i, by omega, h2⟩), (fun _ => rfl)⟩
theorem op_no {W : Nat → Prop} {k : Nat} (h : false = true ↔ ∃ i, i < k ∧ W i) {v : Bool} (hv : v = true ↔ W k) : v = true ↔ ∃ i, i < k + 1 ∧ W i := by
  rw [hv]
  constructor
  · intro e; exact ⟨k, by omega, e⟩
  · rintro ⟨i, h1, h2⟩
    by_cases ek : i = k
    · subst ek; exact h2
    · have := h.2 ⟨i, by omega, h2⟩; cases this
end Go.Proofs.Ytphcpphmoeiioaa
