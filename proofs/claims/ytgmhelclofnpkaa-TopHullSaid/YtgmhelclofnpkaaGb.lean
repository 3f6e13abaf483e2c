/- Plain: a valid polygon has an area: the bridge from lists of corners to Geo. -/
import Derived.Test.YtgmhelclofnpkaaPl
import Derived.Test.YtgmhelclofnpkaaGeo
namespace Go.Proofs.Ytgmhelclofnpkaa
namespace Pl
/-- The corner i, around and around. -/
def crn (ps : List P2) (i : Nat) : P2 := at' ps (i % ps.length)
def gx (ps : List P2) (i : Nat) : Int := (crn ps i).1
def gy (ps : List P2) (i : Nat) : Int := 1000 * (crn ps i).2 + (crn ps i).1
theorem crn_lt {ps : List P2} {i : Nat} (h : i < ps.length) : crn ps i = at' ps i := by unfold crn; rw [Nat.mod_eq_of_lt h]
theorem crn_nx {ps : List P2} {i : Nat} (h : i < ps.length) : crn ps (i + 1) = nx ps i := rfl
theorem crn_per (ps : List P2) (i : Nat) : crn ps (i + ps.length) = crn ps i := by unfold crn; rw [Nat.add_mod_right]
theorem crn_succ (ps : List P2) (i k : Nat) : crn ps (i % ps.length + k) = crn ps (i + k) := by unfold crn; rw [Nat.mod_add_mod]
theorem tn_turn (ps : List P2) (i j : Nat) : Geo.tn (gx ps) (gy ps) i j = 1000 * turn (crn ps i) (crn ps (i + 1)) (crn ps j) := by
  unfold Geo.tn gx gy turn
  grind
theorem between {dX dY u v : Int} (h0 : u * dY = dX * v) (hD : 0 < 1000 * dY + dX) (h1 : 0 ≤ 1000 * v + u) (h2 : 1000 * v + u ≤ 1000 * dY + dX) : (min 0 dX ≤ u ∧ u ≤ max 0 dX) ∧ min 0 dY ≤ v ∧ v ≤ max 0 dY := by
  have e1 : u * (1000 * dY + dX) = dX * (1000 * v + u) := by grind
  have e2 : v * (1000 * dY + dX) = dY * (1000 * v + u) := by grind
  generalize 1000 * dY + dX = D at *
  generalize 1000 * v + u = t at *
  have key : ∀ a b : Int, a * D = b * t → min 0 b ≤ a ∧ a ≤ max 0 b := by
    intro a b e
    rcases Int.le_total 0 b with hb | hb
    · have k1 : 0 ≤ b * t := Int.mul_nonneg hb h1
      have k2 : b * t ≤ b * D := Int.mul_le_mul_of_nonneg_left h2 hb
      rw [← e] at k1 k2
      have m1 : 0 ≤ a := by
        false_or_by_contra
        have := Int.mul_neg_of_neg_of_pos (show a < 0 by omega) hD
        omega
      have m2 : a ≤ b := Int.le_of_mul_le_mul_right k2 hD
      omega
    · have k1 : b * t ≤ 0 := Int.mul_nonpos_of_nonpos_of_nonneg hb h1
      have k2 : b * D ≤ b * t := Int.mul_le_mul_of_nonpos_left hb h2
      rw [← e] at k1 k2
      have m1 : a ≤ 0 := by
        false_or_by_contra
        have := Int.mul_pos (show 0 < a by omega) hD
        omega
      have m2 : b ≤ a := Int.le_of_mul_le_mul_right k2 hD
      omega
  exact ⟨key u dX e1, key v dY e2⟩
theorem hs_has {ps : List P2} {i j : Nat} (hne : gy ps i ≠ gy ps (i + 1)) (h : Geo.hs (gx ps) (gy ps) i j) : has (crn ps i) (crn ps (i + 1)) (crn ps j) = true := by
  obtain ⟨h1, h2⟩ := h
  rw [tn_turn] at h1
  have ht : turn (crn ps i) (crn ps (i + 1)) (crn ps j) = 0 := by omega
  have ht' := ht
  unfold turn at ht'
  unfold gy at h2 hne
  have hb : ((min (crn ps i).1 (crn ps (i + 1)).1 ≤ (crn ps j).1 ∧ (crn ps j).1 ≤ max (crn ps i).1 (crn ps (i + 1)).1) ∧ min (crn ps i).2 (crn ps (i + 1)).2 ≤ (crn ps j).2 ∧ (crn ps j).2 ≤ max (crn ps i).2 (crn ps (i + 1)).2) := by
    rcases h2 with ⟨a, b⟩ | ⟨a, b⟩
    · have := between (dX := (crn ps (i + 1)).1 - (crn ps i).1) (dY := (crn ps (i + 1)).2 - (crn ps i).2) (u := (crn ps j).1 - (crn ps i).1) (v := (crn ps j).2 - (crn ps i).2) (by grind) (by omega) (by omega) (by omega)
      omega
    · have := between (dX := (crn ps i).1 - (crn ps (i + 1)).1) (dY := (crn ps i).2 - (crn ps (i + 1)).2) (u := (crn ps j).1 - (crn ps (i + 1)).1) (v := (crn ps j).2 - (crn ps (i + 1)).2) (by grind) (by omega) (by omega) (by omega)
      omega
  unfold has
  rw [decide_eq_true ht, Bool.true_and, Bool.and_eq_true, btw_iff, btw_iff]
  exact ⟨hb.1, hb.2⟩
theorem gy_inj {ps : List P2} (ha : ps.all isP = true) {i j : Nat} (hi : i < ps.length) (hj : j < ps.length) (h : gy ps i = gy ps j) : at' ps i = at' ps j := by
  have b1 := isP_iff.1 (at_isP ha hi)
  have b2 := isP_iff.1 (at_isP ha hj)
  unfold gy at h
  rw [crn_lt hi, crn_lt hj] at h
  exact Prod.ext (by omega) (by omega)
theorem no_dup {ps : List P2} (hd : dup ps = false) {i j : Nat} (hi : i < ps.length) (hj : j < ps.length) (h : at' ps i = at' ps j) : i = j := by
  have key : ∀ a b : Nat, a < b → b < ps.length → at' ps a ≠ at' ps b := by
    intro a b hab hb e
    unfold dup at hd
    rw [List.any_eq_false] at hd
    have := hd b (List.mem_range.2 hb)
    apply this
    rw [List.contains_iff_mem, ← e]
    have h1 : ps[a]? = some (at' ps a) := by unfold at'; rw [List.getD_eq_getElem?_getD, List.getElem?_eq_getElem (by omega)]; rfl
    have h2 : (ps.take b)[a]? = some (at' ps a) := by rw [List.getElem?_take_of_lt hab, h1]
    exact List.mem_of_getElem? h2
  rcases Nat.lt_trichotomy i j with k | k | k
  · exact absurd h (key i j k hj)
  · exact k
  · exact absurd h.symm (key j i k hi)
theorem ok_parts {ps : List P2} (h : ok ps = true) : (3 ≤ ps.length ∧ ps.length ≤ 10) ∧ ps.all isP = true ∧ dup ps = false ∧ simple ps = true := by
  unfold ok at h
  simp only [Bool.and_eq_true, Bool.not_eq_true', btw_iff] at h
  obtain ⟨⟨h1, h2⟩, h3, h4⟩ := h
  exact ⟨by omega, h2, h3, h4⟩
/-- The product of heights. -/
def prodD (f : Nat → Int) : Nat → Int
  | 0 => 1
  | n + 1 => prodD f n * f n
theorem prodD_dvd (f : Nat → Int) : ∀ n i, i < n → f i ∣ prodD f n
  | 0, i, h => by omega
  | n + 1, i, h => by
    by_cases e : i = n
    · subst e; exact Int.dvd_mul_left _ _
    · exact Int.dvd_trans (prodD_dvd f n i (by omega)) (Int.dvd_mul_right _ _)
theorem prodD_pos {f : Nat → Int} : ∀ n, (∀ i, i < n → 0 < f i) → 0 < prodD f n
  | 0, _ => by show (0 : Int) < 1; decide
  | n + 1, h => Int.mul_pos (prodD_pos n fun i hi => h i (by omega)) (h n (by omega))
/-- How high the side i is. -/
def hgt (ps : List P2) (i : Nat) : Int := gy ps (i + 1) - gy ps i
def bigD (ps : List P2) : Int := prodD (fun i => hgt ps i * hgt ps i) ps.length
def gq (ps : List P2) (i : Nat) : Int := bigD ps / hgt ps i
theorem gx_per (ps : List P2) (i : Nat) : gx ps (i + ps.length) = gx ps i := by unfold gx; rw [crn_per]
theorem gy_per (ps : List P2) (i : Nat) : gy ps (i + ps.length) = gy ps i := by unfold gy; rw [crn_per]
theorem gy_mod (ps : List P2) (i : Nat) : gy ps (i % ps.length) = gy ps i := by unfold gy crn; rw [Nat.mod_mod]
theorem gy_mods (ps : List P2) (i : Nat) : gy ps (i % ps.length + 1) = gy ps (i + 1) := by unfold gy; rw [crn_succ]
theorem hgt_mod (ps : List P2) (i : Nat) : hgt ps (i % ps.length) = hgt ps i := by unfold hgt; rw [gy_mods, gy_mod]
theorem hgt_ne {ps : List P2} (h : ok ps = true) (i : Nat) : hgt ps i ≠ 0 := by
  obtain ⟨h1, h2, h3, _⟩ := ok_parts h
  rw [← hgt_mod]
  have hi := Nat.mod_lt i (show 0 < ps.length by omega)
  generalize i % ps.length = k at hi
  intro e
  unfold hgt at e
  have e1 : gy ps ((k + 1) % ps.length) = gy ps k := by rw [gy_mod]; omega
  have hk1 := Nat.mod_lt (k + 1) (show 0 < ps.length by omega)
  have := no_dup h3 hk1 hi (gy_inj h2 hk1 hi e1)
  rcases Nat.lt_or_ge (k + 1) ps.length with c | c
  · rw [Nat.mod_eq_of_lt c] at this; omega
  · have : k + 1 = ps.length := by omega
    simp_all
    omega
theorem hgt_dvd {ps : List P2} (h : ok ps = true) (i : Nat) : hgt ps i ∣ bigD ps := by
  obtain ⟨h1, _⟩ := ok_parts h
  rw [← hgt_mod]
  exact Int.dvd_trans (Int.dvd_mul_right _ _) (prodD_dvd (fun i => hgt ps i * hgt ps i) ps.length _ (Nat.mod_lt i (by omega)))
theorem crn_a (ps : List P2) (i k : Nat) : crn ps (i + k) = at' ps ((i % ps.length + k) % ps.length) := by unfold crn; rw [Nat.mod_add_mod]
theorem bad_iff {ps : List P2} (h : ok ps = true) {i k : Nat} (hi : i < ps.length) (hk : k < ps.length) : bad ps i k = false := by
  obtain ⟨_, _, _, hs⟩ := ok_parts h
  exact simple_iff.1 hs i k hi hk
theorem next_has {ps : List P2} (h : ok ps = true) (i : Nat) : has (crn ps i) (crn ps (i + 1)) (crn ps (i + 2)) = false ∧ has (crn ps (i + 1)) (crn ps (i + 2)) (crn ps i) = false := by
  obtain ⟨h1, _⟩ := ok_parts h
  have hn : 0 < ps.length := by omega
  have hi := Nat.mod_lt i hn
  have hk := Nat.mod_lt (i % ps.length + 1) hn
  have hb := bad_iff h hi hk
  have hne : ¬ i % ps.length = (i % ps.length + 1) % ps.length := by
    rcases Nat.lt_or_ge (i % ps.length + 1) ps.length with c | c
    · rw [Nat.mod_eq_of_lt c]; omega
    · have : i % ps.length + 1 = ps.length := by omega
      rw [this, Nat.mod_self]; omega
  unfold bad at hb
  rw [if_neg hne, if_pos rfl, Bool.or_eq_false_iff] at hb
  have e0 : crn ps i = at' ps (i % ps.length) := rfl
  have e1 : crn ps (i + 1) = at' ps ((i % ps.length + 1) % ps.length) := crn_a ps i 1
  have e2 : crn ps (i + 2) = nx ps ((i % ps.length + 1) % ps.length) := by
    have e : ((i % ps.length + 1) % ps.length + 1) % ps.length = (i % ps.length + 2) % ps.length := by rw [Nat.mod_add_mod]
    rw [crn_a ps i 2]
    unfold nx
    rw [e]
  have e3 : nx ps (i % ps.length) = at' ps ((i % ps.length + 1) % ps.length) := rfl
  rw [e0, e1, e2, ← e3]
  rw [e3] at hb ⊢
  exact hb
theorem gen_of {ps : List P2} (h : ok ps = true) : Geo.Gen ps.length (gx ps) (gy ps) (gq ps) (bigD ps) := by
  obtain ⟨h1, h2, h3, _⟩ := ok_parts h
  have hne : ∀ i, gy ps i ≠ gy ps (i + 1) := fun i e => hgt_ne h i (by unfold hgt; omega)
  refine ⟨h1.1, gx_per ps, gy_per ps, fun i => ?_, fun i j hi hj e => no_dup h3 hi hj (gy_inj h2 hi hj e), ?_, fun i => ?_, fun i k => ?_, fun i k => ?_, ?_⟩
  · unfold gq hgt
    rw [show i + ps.length + 1 = (i + 1) + ps.length by omega, gy_per, gy_per]
  · refine prodD_pos _ fun i _ => ?_
    have := hgt_ne h i
    rcases Int.lt_trichotomy (hgt ps i) 0 with k | k | k
    · exact Int.mul_pos_of_neg_of_neg k k
    · exact absurd k this
    · exact Int.mul_pos k k
  · show bigD ps / hgt ps i * hgt ps i = bigD ps
    exact Int.ediv_mul_cancel (hgt_dvd h i)
  · have := hs_has (hne i) k
    rw [(next_has h i).1] at this; cases this
  · have := hs_has (hne (i + 1)) k
    rw [(next_has h i).2] at this; cases this
  · intro i j hi hj e1 e2 e3
    have hb := bad_iff h hi hj
    unfold bad at hb
    rw [if_neg e1, if_neg e2, if_neg e3] at hb
    unfold meets at hb
    simp only [Bool.or_eq_false_iff, Bool.and_eq_false_iff] at hb
    obtain ⟨b1, b2, b3, b4, b5⟩ := hb
    simp only [← crn_lt hi, ← crn_nx hi, ← crn_lt hj, ← crn_nx hj] at b1 b2 b3 b4 b5
    refine ⟨fun k => ?_, fun k => ?_, fun k => ?_, fun k => ?_, fun ⟨k1, k2⟩ => ?_⟩
    · rw [hs_has (hne i) k] at b1; cases b1
    · rw [hs_has (hne i) k] at b2; cases b2
    · rw [hs_has (hne j) k] at b3; cases b3
    · rw [hs_has (hne j) k] at b4; cases b4
    · have ap_of : ∀ a b : Nat, Geo.ap (gx ps) (gy ps) a b → apart (crn ps a) (crn ps (a + 1)) (crn ps b) (crn ps (b + 1)) = true := fun a b k => by
        unfold Geo.ap at k
        rw [tn_turn, tn_turn] at k
        unfold apart
        simp only [Bool.or_eq_true, Bool.and_eq_true, decide_eq_true_eq]
        omega
      rcases b5 with c | c
      · rw [ap_of i j k1] at c; cases c
      · rw [ap_of j i k2] at c; cases c
theorem area_S (ps : List P2) : ∀ k, k ≤ ps.length → Geo.S k (fun i => gx ps i * gy ps (i + 1) - gx ps (i + 1) * gy ps i) = 1000 * sumTo ps k
  | 0, _ => by simp [Geo.S, sumTo]
  | k + 1, hk => by
    rw [Geo.S, sumTo, area_S ps k (by omega)]
    unfold gx gy
    rw [crn_lt (show k < ps.length by omega), crn_nx (show k < ps.length by omega)]
    unfold cross
    grind
/-- A valid polygon has an area. -/
theorem area_ne {ps : List P2} (h : ok ps = true) : area ps ≠ 0 := by
  obtain ⟨h1, h2, _⟩ := ok_parts h
  have hy : ∀ i, (-200200 : Int) ≤ gy ps i ∧ gy ps i ≤ -200200 + ((400400 : Nat) : Int) := fun i => by
    have := isP_iff.1 (at_isP h2 (Nat.mod_lt i (show 0 < ps.length by omega)))
    unfold gy crn
    omega
  intro e
  refine Geo.area_ne (gen_of h) (-200200) 400400 hy ?_
  unfold Geo.area
  rw [area_S ps _ (Nat.le_refl _)]
  unfold area at e
  rw [e]; rfl
end Pl
end Go.Proofs.Ytgmhelclofnpkaa
