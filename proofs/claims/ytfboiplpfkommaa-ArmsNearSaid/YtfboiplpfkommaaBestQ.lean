/- Plain mathematics: both searches find the same ratio; it is reduced, and none with so small a Den is nearer. -/
import Derived.Test.YtfboiplpfkommaaBestP
namespace Go.Proofs.Ytfboiplpfkommaa

theorem better {f f' d d' x y : Int} (h : f' * d ≤ f * d') (k : f * x ≤ y * d) (hd : 0 < d) (hd' : 0 ≤ d') (hx : 0 ≤ x) : f' * x ≤ y * d' := by
  have e1 : d * (f' * x) ≤ (f * x) * d' := by
    have := Int.mul_le_mul_of_nonneg_right h hx
    calc d * (f' * x) = f' * d * x := by rw [← Int.mul_assoc, Int.mul_comm d f']
      _ ≤ f * d' * x := this
      _ = (f * x) * d' := by rw [Int.mul_assoc, Int.mul_comm d' x, ← Int.mul_assoc]
  have e2 : (f * x) * d' ≤ d * (y * d') := by
    have := Int.mul_le_mul_of_nonneg_right k hd'
    calc (f * x) * d' ≤ y * d * d' := this
      _ = d * (y * d') := by rw [Int.mul_comm y d, Int.mul_assoc]
  exact Int.le_of_mul_le_mul_left (Int.le_trans e1 e2) hd
theorem better_lt {f f' d d' x y : Int} (h : f' * d < f * d') (k : f * x ≤ y * d) (hd : 0 < d) (hd' : 0 ≤ d') (hx : 0 < x) : f' * x < y * d' := by
  have e1 : d * (f' * x) < (f * x) * d' := by
    have := Int.mul_lt_mul_of_pos_right h hx
    calc d * (f' * x) = f' * d * x := by rw [← Int.mul_assoc, Int.mul_comm d f']
      _ < f * d' * x := this
      _ = (f * x) * d' := by rw [Int.mul_assoc, Int.mul_comm d' x, ← Int.mul_assoc]
  have e2 : (f * x) * d' ≤ d * (y * d') := by
    have := Int.mul_le_mul_of_nonneg_right k hd'
    calc (f * x) * d' ≤ y * d * d' := this
      _ = d * (y * d') := by rw [Int.mul_comm y d, Int.mul_assoc]
  exact Int.lt_of_mul_lt_mul_left (Int.lt_of_lt_of_le e1 e2) (by omega)

/-- A state of the search: den is the one at hand. -/
structure SI (rn rd den : Int) (s : BS) : Prop where
  d1 : 1 ≤ s.d
  d2 : s.d ≤ den
  f : s.f = far rn rd s.d s.n
  opt : ∀ x y, 1 ≤ x → x < den → s.f * x ≤ far rn rd x y * s.d
  first : ∀ x y, 1 ≤ x → x < s.d → s.f * x < far rn rd x y * s.d
theorem far_nonneg (rn rd den num : Int) : 0 ≤ far rn rd den num := by unfold far; omega

theorem SI.step {rn rd den num : Int} {s : BS} (h : SI rn rd den s) :
    SI rn rd den (bstep rn rd den num s) ∧ (bstep rn rd den num s).f * den ≤ far rn rd den num * (bstep rn rd den num s).d ∧
    ∀ x y, 1 ≤ x → s.f * x ≤ y * s.d → (bstep rn rd den num s).f * x ≤ y * (bstep rn rd den num s).d := by
  have hd := h.d1
  have hd2 := h.d2
  by_cases hw : far rn rd den num * s.d < s.f * den
  · have e : bstep rn rd den num s = ⟨num, den, far rn rd den num⟩ := bstep_t (.inr hw)
    rw [e]
    refine ⟨⟨by show 1 ≤ den; omega, by show den ≤ den; omega, rfl, fun x y h1 h2 => ?_, fun x y h1 h2 => ?_⟩, Int.le_refl _, fun x y h1 h2 => ?_⟩
    · show far rn rd den num * x ≤ far rn rd x y * den
      exact better (Int.le_of_lt hw) (h.opt x y h1 h2) (by omega) (by omega) (by omega)
    · show far rn rd den num * x < far rn rd x y * den
      exact better_lt hw (h.opt x y h1 h2) (by omega) (by omega) (by omega)
    · show far rn rd den num * x ≤ y * den
      exact better (Int.le_of_lt hw) h2 (by omega) (by omega) (by omega)
  · have e : bstep rn rd den num s = s := bstep_f (by omega) (by omega)
    rw [e]
    exact ⟨h, by omega, fun x y _ h2 => h2⟩

/-- Of all numerators the two candidates are the nearest. -/
theorem far_cand {rn rd den num : Int} (hrd : 1 ≤ rd) : far rn rd den (rn * den / rd) ≤ far rn rd den num ∨ far rn rd den (rn * den / rd + 1) ≤ far rn rd den num := by
  have e1 := Int.emod_nonneg (rn * den) (show rd ≠ 0 by omega)
  have e2 := Int.emod_lt_of_pos (rn * den) (show 0 < rd by omega)
  have e3 := Int.mul_ediv_add_emod (rn * den) rd
  generalize rn * den / rd = low at *
  unfold far
  rcases Int.lt_or_le low num with h | h
  · refine .inr ?_
    have : (low + 1) * rd ≤ num * rd := Int.mul_le_mul_of_nonneg_right (by omega) (by omega)
    have e : (low + 1) * rd = rd * low + rd := by rw [Int.add_mul, Int.mul_comm, Int.one_mul]
    omega
  · refine .inl ?_
    have : num * rd ≤ low * rd := Int.mul_le_mul_of_nonneg_right h (by omega)
    have e : low * rd = rd * low := Int.mul_comm _ _
    omega

theorem SI.inner {rn rd den : Int} {s : BS} (h : SI rn rd den s) (hrd : 1 ≤ rd) (hden : 1 ≤ den) : SI rn rd (den + 1) (binner rn rd den (rn * den / rd) 2 s) := by
  show SI rn rd (den + 1) (bstep rn rd den (rn * den / rd + 1) (bstep rn rd den (rn * den / rd) s))
  obtain ⟨h1, o1, _⟩ := h.step (num := rn * den / rd)
  obtain ⟨h2, o2, p2⟩ := h1.step (num := rn * den / rd + 1)
  have o3 := p2 den _ hden o1
  generalize bstep rn rd den (rn * den / rd + 1) (bstep rn rd den (rn * den / rd) s) = t at *
  refine ⟨h2.d1, by have := h2.d2; omega, h2.f, fun x y hx hx2 => ?_, h2.first⟩
  by_cases hxd : x < den
  · exact h2.opt x y hx hxd
  · obtain rfl : x = den := by omega
    rcases far_cand (rn := rn) (den := x) (num := y) hrd with h | h
    · exact Int.le_trans o3 (Int.mul_le_mul_of_nonneg_right h (by have := h2.d1; omega))
    · exact Int.le_trans o2 (Int.mul_le_mul_of_nonneg_right h (by have := h2.d1; omega))

theorem bafter_one (rn rd : Int) (hrd : 1 ≤ rd) : SI rn rd 2 (bafter rn rd 1) := by
  have e : bafter rn rd 1 = bstep rn rd 1 (rn * 1 / rd + 1) ⟨rn * 1 / rd, 1, far rn rd 1 (rn * 1 / rd)⟩ := by
    show bstep rn rd _ _ (bstep rn rd _ _ ⟨0, 0, 0⟩) = _
    rw [bstep_t (.inl rfl)]; rfl
  have h0 : SI rn rd 1 ⟨rn * 1 / rd, 1, far rn rd 1 (rn * 1 / rd)⟩ :=
    ⟨by show (1 : Int) ≤ 1; omega, by show (1 : Int) ≤ 1; omega, rfl, fun x y h1 h2 => by omega, fun x y h1 (h2 : x < 1) => by omega⟩
  have e2 : bstep rn rd 1 (rn * 1 / rd) ⟨rn * 1 / rd, 1, far rn rd 1 (rn * 1 / rd)⟩ = ⟨rn * 1 / rd, 1, far rn rd 1 (rn * 1 / rd)⟩ := bstep_f (by omega) (by omega)
  have := h0.inner hrd (by omega)
  rw [e, ← e2]
  exact this
theorem bafter_SI (rn rd : Int) (hrd : 1 ≤ rd) : ∀ k : Nat, SI rn rd (k + 2) (bafter rn rd (k + 1))
  | 0 => bafter_one rn rd hrd
  | k + 1 => by
    have h := bafter_SI rn rd hrd k
    have h2 := h.inner hrd (by omega)
    have e : ((k + 1 : Nat) : Int) + 2 = (k : Int) + 2 + 1 := by omega
    have e2 : ((k + 1 : Nat) : Int) + 1 = (k : Int) + 2 := by omega
    rw [e]
    show SI rn rd _ (binner rn rd (((k + 1 : Nat) : Int) + 1) (rn * (((k + 1 : Nat) : Int) + 1) / rd) 2 (bafter rn rd (k + 1)))
    rw [e2]
    exact h2

/-- The state is reduced. -/
theorem SI.reduced {rn rd den : Int} {s : BS} (h : SI rn rd den s) : Int.gcd s.n s.d = 1 := by
  have hd := h.d1
  have hg := gcd_pos s.n s.d hd
  have e1 := redN_mul s.n s.d
  have e2 := redD_mul s.n s.d
  have p2 := redD_pos s.n s.d hd
  false_or_by_contra
  rename_i hne
  have hg2 : 2 ≤ (Int.gcd s.n s.d : Int) := by omega
  have hlt : redD s.n s.d < s.d := by
    have : redD s.n s.d * 2 ≤ redD s.n s.d * Int.gcd s.n s.d := Int.mul_le_mul_of_nonneg_left hg2 (by omega)
    omega
  have h1 := h.first (redD s.n s.d) (redN s.n s.d) p2 hlt
  have h2 : far rn rd (redD s.n s.d) (redN s.n s.d) * s.d = s.f * redD s.n s.d := by
    rw [h.f]
    have e3 : far rn rd s.d s.n = far rn rd (redD s.n s.d) (redN s.n s.d) * Int.gcd s.n s.d := by
      unfold far
      have : rn * s.d - s.n * rd = (rn * redD s.n s.d - redN s.n s.d * rd) * Int.gcd s.n s.d := by
        rw [Int.sub_mul, Int.mul_assoc, e2, Int.mul_assoc (redN s.n s.d), Int.mul_comm rd, ← Int.mul_assoc (redN s.n s.d), e1]
      rw [this, Int.natAbs_mul]
      simp
    rw [e3, Int.mul_assoc, Int.mul_comm (Int.gcd s.n s.d : Int), e2]
  omega

/-- Once the ratio itself is found nothing turns. -/
theorem bstep_zero {rn rd den num : Int} {s : BS} (hd : 1 ≤ s.d) (hf : s.f = 0) : bstep rn rd den num s = s := by
  have : far rn rd den num * s.d ≥ 0 := Int.mul_nonneg (far_nonneg _ _ _ _) (by omega)
  exact bstep_f (by omega) (by rw [hf, Int.zero_mul]; omega)
theorem binner_zero' {rn rd den low : Int} {s : BS} (hd : 1 ≤ s.d) (hf : s.f = 0) : binner rn rd den low 2 s = s := by
  show bstep rn rd den (low + 1) (bstep rn rd den low s) = s
  rw [bstep_zero hd hf, bstep_zero hd hf]
theorem bafter_zero {rn rd : Int} (hrd : 1 ≤ rd) {k : Nat} (hk : rd ≤ (k : Int) + 1) : (bafter rn rd (k + 1)).f = 0 := by
  have h := bafter_SI rn rd hrd k
  have h1 := h.opt rd rn (by omega) (by omega)
  have h2 : far rn rd rd rn = 0 := by unfold far; simp
  rw [h2, Int.zero_mul] at h1
  have h3 : 0 ≤ (bafter rn rd (k + 1)).f := by rw [h.f]; exact far_nonneg _ _ _ _
  have h4 : 0 ≤ (bafter rn rd (k + 1)).f * rd := Int.mul_nonneg h3 (by omega)
  have h5 : (bafter rn rd (k + 1)).f * rd = 0 := by omega
  rcases Int.mul_eq_zero.1 h5 with h6 | h6
  · exact h6
  · omega
theorem bafter_stays {rn rd : Int} (hrd : 1 ≤ rd) {k : Nat} (hk : rd ≤ (k : Int) + 1) : ∀ j : Nat, bafter rn rd (k + 1 + j) = bafter rn rd (k + 1)
  | 0 => rfl
  | j + 1 => by
    have ih := bafter_stays (rn := rn) hrd hk j
    show binner rn rd _ _ 2 (bafter rn rd (k + 1 + j)) = _
    rw [ih]
    exact binner_zero' (bafter_SI rn rd hrd k).d1 (bafter_zero hrd hk)
theorem bafter_min {rn rd most : Int} (hrd : 1 ≤ rd) (hm : 1 ≤ most) : bafter rn rd (min most rd).toNat = bafter rn rd most.toNat := by
  rcases Int.le_total most rd with h | h
  · rw [Int.min_eq_left h]
  · rw [Int.min_eq_right h]
    obtain ⟨k, hk⟩ : ∃ k : Nat, rd = (k : Int) + 1 := ⟨(rd - 1).toNat, by omega⟩
    have e1 : rd.toNat = k + 1 := by omega
    have e2 : most.toNat = k + 1 + (most - rd).toNat := by omega
    rw [e1, e2, bafter_stays hrd (by omega)]

/-- The reference goes through the same states. -/
theorem near_far {rn rd g num den sn sd : Int} (hg : 1 ≤ g) : nearB num den sn sd (rn * g) (rd * g) = decide (far rn rd den num * sd < far rn rd sd sn * den) := by
  have e : ∀ a b : Int, ((a * (rd * g) - rn * g * b).natAbs : Int) = far rn rd b a * g := by
    intro a b
    unfold far
    have : a * (rd * g) - rn * g * b = -(rn * b - a * rd) * g := by
      rw [Int.neg_sub, Int.sub_mul, Int.mul_assoc a, Int.mul_assoc rn g b, Int.mul_comm g b, ← Int.mul_assoc rn b g]
    rw [this, Int.natAbs_mul, Int.natAbs_neg]
    have : (g.natAbs : Int) = g := by omega
    rw [Int.natCast_mul, this]
  unfold nearB
  rw [e, e, Bool.eq_iff_iff]
  simp only [decide_eq_true_eq]
  rw [show far rn rd den num * g * sd = far rn rd den num * sd * g by rw [Int.mul_assoc, Int.mul_comm g sd, ← Int.mul_assoc], show far rn rd sd sn * g * den = far rn rd sd sn * den * g by rw [Int.mul_assoc, Int.mul_comm g den, ← Int.mul_assoc]]
  constructor
  · intro h; exact Int.lt_of_mul_lt_mul_right h (by omega)
  · intro h; exact Int.mul_lt_mul_of_pos_right h (by omega)
def RS (rn rd : Int) (s : BS) (t : CS) : Prop := t = ⟨s.n, s.d⟩ ∧ 1 ≤ s.d ∧ s.f = far rn rd s.d s.n
theorem RS.step {rn rd g den num : Int} {s : BS} {t : CS} (hg : 1 ≤ g) (hd : 1 ≤ den) (h : RS rn rd s t) : RS rn rd (bstep rn rd den num s) (cstep (rn * g) (rd * g) den num t) := by
  obtain ⟨rfl, h1, h2⟩ := h
  unfold cstep
  rw [near_far hg, ← h2]
  by_cases hw : far rn rd den num * s.d < s.f * den
  · have e : bstep rn rd den num s = ⟨num, den, far rn rd den num⟩ := bstep_t (.inr hw)
    rw [e, decide_eq_true hw, if_pos rfl]
    exact ⟨rfl, hd, rfl⟩
  · have e : bstep rn rd den num s = s := bstep_f (by omega) (by omega)
    rw [e, decide_eq_false hw]
    exact ⟨rfl, h1, h2⟩
theorem floor_scale {rn rd g x : Int} (hg : 1 ≤ g) : rn * g * x / (rd * g) = rn * x / rd := by
  rw [Int.mul_assoc, Int.mul_comm g x, ← Int.mul_assoc, Int.mul_ediv_mul_of_pos_left _ _ (by omega)]
theorem RS.inner {rn rd g den : Int} {s : BS} {t : CS} (hg : 1 ≤ g) (hd : 1 ≤ den) (h : RS rn rd s t) :
    RS rn rd (binner rn rd den (rn * den / rd) 2 s) (cinner (rn * g) (rd * g) den (rn * g * den / (rd * g)) 2 t) := by
  rw [floor_scale hg]
  exact (h.step hg hd).step hg hd
theorem RS.after {rn rd g : Int} (hrd : 1 ≤ rd) (hg : 1 ≤ g) : ∀ k : Nat, RS rn rd (bafter rn rd (k + 1)) (cafter (rn * g) (rd * g) (k + 1))
  | 0 => by
    have e : bafter rn rd 1 = bstep rn rd 1 (rn * 1 / rd + 1) ⟨rn * 1 / rd, 1, far rn rd 1 (rn * 1 / rd)⟩ := by
      show bstep rn rd _ _ (bstep rn rd _ _ ⟨0, 0, 0⟩) = _
      rw [bstep_t (.inl rfl)]; rfl
    have e2 : bstep rn rd 1 (rn * 1 / rd) ⟨rn * 1 / rd, 1, far rn rd 1 (rn * 1 / rd)⟩ = ⟨rn * 1 / rd, 1, far rn rd 1 (rn * 1 / rd)⟩ := bstep_f (by omega) (by omega)
    rw [e, ← e2]
    have h0 : RS rn rd ⟨rn * 1 / rd, 1, far rn rd 1 (rn * 1 / rd)⟩ (cafter (rn * g) (rd * g) 0) := by
      refine ⟨?_, by show (1 : Int) ≤ 1; omega, rfl⟩
      show (⟨rn * g / (rd * g), 1⟩ : CS) = _
      rw [Int.mul_ediv_mul_of_pos_left _ _ (by omega), Int.mul_one]
    exact h0.inner hg (by omega)
  | k + 1 => (RS.after hrd hg k).inner hg (by omega)

theorem red_of_gcd {a b : Int} (h : Int.gcd a b = 1) : redN a b = a ∧ redD a b = b := by unfold redN redD; rw [h]; simp
theorem best_same {n d most : Int} (hr : ratB n d = true) (hm : 1 ≤ most) : bafter (redN n d) (redD n d) (min most (redD n d)).toNat = ⟨redN (cafter n d most.toNat).n (cafter n d most.toNat).d, redD (cafter n d most.toNat).n (cafter n d most.toNat).d, (bafter (redN n d) (redD n d) most.toNat).f⟩ := by
  obtain ⟨⟨h1, h2⟩, h3, h4⟩ := ratB_iff.1 hr
  have hrd := redD_pos n d h1
  have hg := gcd_pos n d h1
  rw [bafter_min hrd hm]
  obtain ⟨k, hk⟩ : ∃ k : Nat, most.toNat = k + 1 := ⟨most.toNat - 1, by omega⟩
  rw [hk]
  have h := (RS.after (rn := redN n d) hrd hg k).1
  rw [redN_mul, redD_mul] at h
  rw [h]
  have hred := (bafter_SI (redN n d) (redD n d) hrd k).reduced
  obtain ⟨e1, e2⟩ := red_of_gcd hred
  simp only [e1, e2]
theorem bestV_eq (n d most : Int) : bestV n d most = rbestV n d most := by
  unfold bestV rbestV
  cases hr : ratB n d
  · rfl
  · cases hb : btw most 1 1000000
    · rfl
    · have := best_same hr (btw_iff.1 hb).1
      simp only [if_true]
      rw [this]

end Go.Proofs.Ytfboiplpfkommaa
