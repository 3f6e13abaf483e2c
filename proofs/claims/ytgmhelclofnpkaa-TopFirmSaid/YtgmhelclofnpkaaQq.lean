/- Plain: a wheel on both sides of the pole tells just one area and one skew. -/
import Derived.Test.YtgmhelclofnpkaaQm
namespace Go.Proofs.Ytgmhelclofnpkaa

theorem pairs_in {aL lL : Int} {m : Nat} {p : P2} : ∀ n, p ∈ Sh.pairs aL lL m n → ∃ i j : Nat, i < n ∧ j < m ∧ p = (aL + (i : Int), lL + (j : Int))
  | 0, h => by simp [Sh.pairs] at h
  | n + 1, h => by
    rw [Sh.pairs, List.mem_append] at h
    rcases h with h | h
    · obtain ⟨i, j, h1, h2, h3⟩ := pairs_in n h
      exact ⟨i, j, by omega, h2, h3⟩
    · obtain ⟨j, hj, rfl⟩ := List.mem_map.1 h
      exact ⟨n, j, by omega, List.mem_range.1 hj, rfl⟩
theorem allP_in {aL aH lL lH : Int} {p : P2} (h : p ∈ Sh.allP aL aH lL lH) : Sh.In aL aH lL lH p := by
  obtain ⟨i, j, h1, h2, rfl⟩ := pairs_in _ h
  unfold Sh.In
  simp only
  omega
theorem emod_small {d f : Int} (hf : 60 ≤ f) (h1 : -30 ≤ d) (h2 : d ≤ 30) : d % f ≤ 0 ↔ d = 0 := by
  constructor
  · intro h
    rcases Int.lt_trichotomy d 0 with k | k | k
    · have e : d % f = (d + f * 1) % f := (Int.add_mul_emod_self_left d f 1).symm
      rw [e, Int.emod_eq_of_lt (by omega) (by omega)] at h
      omega
    · exact k
    · rw [Int.emod_eq_of_lt (by omega) (by omega)] at h
      omega
  · rintro rfl
    simp
theorem emod_back {x y f : Int} : (x % f - y) % f = (x - y) % f := by
  have h := Int.emod_add_mul_ediv x f
  have e : x - y = (x % f - y) + f * (x / f) := by omega
  rw [e, Int.add_mul_emod_self_left]
namespace Wl
/-- The wheel of TopRound. -/
def rdW (full a : Int) : Wh := ⟨full, 0, 0, 4, 0, max 0 (a - 10), min 9999 (a + 10), 0⟩
def rdK (full a sk f s : Int) : List Wk := [⟨1, 1, 0, f, (f + a + sk + full).tmod full⟩, ⟨1, -1, 0, s, (s + a - sk + full).tmod full⟩]
structure RdH (full a sk f s : Int) : Prop where
  k1 : 60 ≤ full ∧ full ≤ 10000
  k2 : 0 < a ∧ a ≤ 9999
  k3 : -4 ≤ sk ∧ sk ≤ 4
  k4 : 0 ≤ f ∧ f < full
  k5 : 0 ≤ s ∧ s < full
variable {full a sk f s : Int}
theorem rd_v (h : RdH full a sk f s) : WhV (rdW full a) (rdK full a sk f s) := by
  have h1 := h.k1
  have h2 := h.k2
  have h3 := h.k3
  have h4 := h.k4
  have h5 := h.k5
  have m1 := Int.emod_nonneg (f + a + sk + full) (show full ≠ 0 by omega)
  have m2 := Int.emod_lt_of_pos (f + a + sk + full) (show 0 < full by omega)
  have m3 := Int.emod_nonneg (s + a - sk + full) (show full ≠ 0 by omega)
  have m4 := Int.emod_lt_of_pos (s + a - sk + full) (show 0 < full by omega)
  refine ⟨?_, by simp [rdK], fun x hx => ?_⟩
  · constructor <;> simp only [rdW] <;> omega
  · simp only [rdK, List.mem_cons, List.not_mem_nil, or_false] at hx
    rcases hx with rfl | rfl
    · refine ⟨Or.inl rfl, Or.inl rfl, ⟨Int.le_refl _, by simp⟩, ?_, ?_⟩ <;> simp only [rdW]
      · omega
      · rw [Int.tmod_eq_emod_of_nonneg (by omega)]; omega
    · refine ⟨Or.inl rfl, Or.inr rfl, ⟨Int.le_refl _, by simp⟩, ?_, ?_⟩ <;> simp only [rdW]
      · omega
      · rw [Int.tmod_eq_emod_of_nonneg (by omega)]; omega
theorem rd_right {sd z b t1 t2 : Int} (hf : 60 ≤ full) (hz : 0 ≤ z + b + full) (hd : -30 ≤ b - (t1 + sd * t2) ∧ b - (t1 + sd * t2) ≤ 30) :
    rightB (rdW full a) ⟨1, sd, 0, z, (z + b + full).tmod full⟩ (t1, t2) = decide (b = t1 + sd * t2) := by
  have l1 : lowV (rdW full a) ⟨1, sd, 0, z, (z + b + full).tmod full⟩ = 0 := by simp [lowV, rdW]
  have l2 : highV (rdW full a) ⟨1, sd, 0, z, (z + b + full).tmod full⟩ = 0 := by simp [highV, rdW]
  unfold rightB
  rw [l1, l2]
  unfold turnsB
  rw [Bool.eq_iff_iff, decide_eq_true_eq, decide_eq_true_eq]
  unfold rollV
  simp only [rdW]
  rw [Int.tmod_eq_emod_of_nonneg hz]
  have e1 : (z + b + full) % full - z - (1 * (t1 - 0 * 0) + sd * t2) - 0 = (z + b + full) % full - (z + (t1 + sd * t2)) := by omega
  rw [e1, emod_back, show z + b + full - (z + (t1 + sd * t2)) = (b - (t1 + sd * t2)) + full * 1 by omega, Int.add_mul_emod_self_left, show (0 : Int) - 0 = 0 by rfl, emod_small hf hd.1 hd.2]
  omega
theorem rd_trs (h : RdH full a sk f s) (t : P2) : t ∈ trs (rdW full a) (rdK full a sk f s) ↔ t = (a, sk) := by
  have h1 := h.k1
  have h2 := h.k2
  have h3 := h.k3
  have h4 := h.k4
  have h5 := h.k5
  have key : ∀ t1 t2 : Int, Sh.In (rdW full a).lo (rdW full a).hi (-(rdW full a).skew) (rdW full a).skew (t1, t2) → (decide ((wrongsN (rdW full a) (rdK full a sk f s) (t1, t2) : Int) ≤ (rdW full a).wrong) = true ↔ t1 = a ∧ t2 = sk) := by
    intro t1 t2 hin
    obtain ⟨k1, k2⟩ := hin
    simp only [rdW] at k1 k2
    have r1 := rd_right (full := full) (a := a) (sd := 1) (z := f) (b := a + sk) (t1 := t1) (t2 := t2) h1.1 (by omega) (by omega)
    have r2 := rd_right (full := full) (a := a) (sd := -1) (z := s) (b := a - sk) (t1 := t1) (t2 := t2) h1.1 (by omega) (by omega)
    have e1 : f + a + sk + full = f + (a + sk) + full := by omega
    have e2 : s + a - sk + full = s + (a - sk) + full := by omega
    unfold wrongsN rdK
    rw [e1, e2]
    simp only [List.filter_cons, List.filter_nil, r1, r2]
    show decide (_ ≤ (0 : Int)) = true ↔ _
    rw [decide_eq_true_eq]
    by_cases c1 : a + sk = t1 + 1 * t2 <;> by_cases c2 : a - sk = t1 + -1 * t2 <;> simp only [c1, c2, decide_true, decide_false, Bool.not_true, Bool.not_false, if_true, if_false, List.length_cons, List.length_nil, Bool.false_eq_true] <;> omega
  unfold trs
  rw [List.mem_filter]
  constructor
  · rintro ⟨m, r⟩
    obtain ⟨t1, t2⟩ := t
    obtain ⟨e1, e2⟩ := (key t1 t2 (allP_in m)).1 r
    rw [e1, e2]
  · rintro rfl
    have hin : Sh.In (rdW full a).lo (rdW full a).hi (-(rdW full a).skew) (rdW full a).skew (a, sk) := by
      unfold Sh.In
      simp only [rdW]
      omega
    exact ⟨allP_mem hin, (key a sk hin).2 ⟨rfl, rfl⟩⟩
end Wl
theorem keys_only {ks l : List Int} {x : Int} (h : KeysOf ks l) (hl : ∀ y, y ∈ l ↔ y = x) : ks = [x] := keys_one ⟨h.1, fun y => by rw [h.2 y, hl y]; simp⟩
end Go.Proofs.Ytgmhelclofnpkaa
