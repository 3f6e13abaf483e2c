/- Plain mathematics: what is more known of a coast. -/
import Derived.Test.YtibkgnnpmidgfaaDoorCu
import Derived.Test.YtibkgnnpmidgfaaDoorCs
namespace Go.Proofs.YtibkgnnpmidgfaaDoor

theorem sumTo_tail {g : Nat → Nat} {m : Nat} (h : ∀ i, m ≤ i → g i = 0) : ∀ d, sumTo g (m + d) = sumTo g m
  | 0 => rfl
  | d + 1 => by rw [← Nat.add_assoc, sumTo_succ, sumTo_tail h d, h _ (by omega), Nat.add_zero]
theorem sumTo_shift (g : Nat → Nat) (a : Nat) : ∀ n, sumTo (fun v => if a ≤ v then g (v - a) else 0) n = sumTo g (n - a)
  | 0 => by rw [Nat.zero_sub]; rfl
  | n + 1 => by
    rw [sumTo_succ, sumTo_shift g a n]
    by_cases h : a ≤ n
    · rw [if_pos h, show n + 1 - a = (n - a) + 1 by omega, sumTo_succ]
    · rw [if_neg h, show n + 1 - a = 0 by omega, show n - a = 0 by omega]; rfl
theorem sumTo_split (g : Nat → Nat) (s : Nat) : ∀ m, sumTo g (s + m) = sumTo g s + sumTo (fun j => g (j + s)) m
  | 0 => rfl
  | m + 1 => by rw [← Nat.add_assoc, sumTo_succ, sumTo_split g s m, sumTo_succ, Nat.add_comm m s]; omega
theorem sumTo_mono {g h : Nat → Nat} : ∀ {n : Nat}, (∀ i, i < n → g i ≤ h i) → sumTo g n ≤ sumTo h n
  | 0, _ => Nat.le_refl _
  | n + 1, e => by
    have := sumTo_mono (n := n) (fun i hi => e i (by omega))
    have := e n (by omega)
    rw [sumTo_succ, sumTo_succ]; omega
/-- A part of a sum. -/
theorem sumTo_part {g h : Nat → Nat} {m n s : Nat} (hs : s + m ≤ n) (e : ∀ j, j < m → g j ≤ h (j + s)) : sumTo g m ≤ sumTo h n := by
  have h1 := sumTo_mono e
  have h2 := sumTo_split h s m
  have h3 := sumTo_split h (s + m) (n - (s + m))
  rw [show s + m + (n - (s + m)) = n by omega] at h3
  omega
theorem sumTo_ge {g : Nat → Nat} {j n : Nat} (hj : j < n) : g j ≤ sumTo g n := by
  have := sumTo_part (g := fun _ => g j) (h := g) (m := 1) (n := n) (s := j) (by omega) (fun i hi => by rw [show i = 0 by omega, Nat.zero_add]; exact Nat.le_refl _)
  simpa [sumTo] using this

/-- In how many ways at most c reports are wrong with openings of the first k pairs of dividers. -/
def mc (B D : List Pt) (R : List Rep) : Nat → Int → Nat
  | 0, c => if 0 ≤ c then 1 else 0
  | k + 1, c => sumTo (fun j => mc B D R k (c - wrO B D R k j)) (wid D k)
theorem mc_succ (B D : List Pt) (R : List Rep) (k : Nat) (c : Int) : mc B D R (k + 1) c = sumTo (fun j => mc B D R k (c - wrO B D R k j)) (wid D k) := rfl
theorem wrO_le {R : List Rep} (hR : R.length ≤ 8) (B D : List Pt) (k j : Nat) : wrO B D R k j ≤ 8 := by
  have := wrongL_le B k ((sAt D k).1 + j) R
  unfold wrO wrongD; omega
theorem mc_eq {B D : List Pt} {R : List Rep} (hR : R.length ≤ 8) : ∀ k c, k ≤ 4 → sumTo (fun v => if (v : Int) ≤ c then cn B D R k v else 0) 33 = mc B D R k c
  | 0, c, _ => by
    have e : ∀ v : Nat, v < 33 → (if (v : Int) ≤ c then cn B D R 0 v else 0) = if v = 0 then (if 0 ≤ c then 1 else 0) else 0 := by
      intro v _
      unfold cn
      by_cases h : v = 0
      · subst h; rfl
      · rw [if_neg h, if_neg h]; split <;> rfl
    rw [sumTo_congr e, sumTo_point]; rfl
  | k + 1, c, hk => by
    have e : ∀ v : Nat, v < 33 → (if (v : Int) ≤ c then cn B D R (k + 1) v else 0) = sumTo (fun j => if wrO B D R k j ≤ v then (fun u : Nat => if (u : Int) ≤ c - wrO B D R k j then cn B D R k u else 0) (v - wrO B D R k j) else 0) (wid D k) := by
      intro v _
      rw [cn_succ]
      by_cases h : (v : Int) ≤ c
      · rw [if_pos h]
        refine sumTo_congr fun j _ => ?_
        by_cases h2 : wrO B D R k j ≤ v
        · rw [if_pos h2, if_pos h2]
          show _ = if ((v - wrO B D R k j : Nat) : Int) ≤ c - wrO B D R k j then _ else 0
          rw [if_pos (by omega)]
        · rw [if_neg h2, if_neg h2]
      · rw [if_neg h]
        refine ((sumTo_congr (h := fun _ => 0) fun j _ => ?_).trans (sumTo_zero _)).symm
        split
        · show (if ((v - wrO B D R k j : Nat) : Int) ≤ c - wrO B D R k j then _ else 0) = 0
          rw [if_neg (by omega)]
        · rfl
    rw [sumTo_congr e, sumTo_swap, mc_succ]
    refine sumTo_congr fun j _ => ?_
    rw [sumTo_shift (fun u : Nat => if (u : Int) ≤ c - wrO B D R k j then cn B D R k u else 0), ← mc_eq hR k _ (by omega)]
    have hw := wrO_le hR B D k j
    have ht := sumTo_tail (g := fun u : Nat => if (u : Int) ≤ c - wrO B D R k j then cn B D R k u else 0) (m := 33 - wrO B D R k j) (fun i hi => by
      show (if (i : Int) ≤ c - wrO B D R k j then cn B D R k i else 0) = 0
      rw [cn_far hR k i (by omega)]; split <;> rfl) (wrO B D R k j)
    rw [show 33 - wrO B D R k j + wrO B D R k j = 33 by omega] at ht
    exact ht.symm
theorem manyV_mc {cw : Int} {B D : List Pt} {R : List Rep} (hV : Val cw B D R) : manyV cw B D R = mc B D R D.length cw := mc_eq hV.r _ _ hV.d
theorem mc_mono (B D : List Pt) (R : List Rep) : ∀ k {c d : Int}, c ≤ d → mc B D R k c ≤ mc B D R k d
  | 0, c, d, h => by unfold mc; split <;> split <;> omega
  | k + 1, c, d, h => by rw [mc_succ, mc_succ]; exact sumTo_mono fun j _ => mc_mono B D R k (by omega)

/-- One coast tells more than another one. -/
structure Narrow (B D : List Pt) (R : List Rep) (D' : List Pt) (R' : List Rep) : Prop where
  len : D'.length = D.length
  lo : ∀ i, i < D.length → (sAt D i).1 ≤ (sAt D' i).1 ∧ (sAt D' i).1 ≤ (sAt D' i).2 ∧ (sAt D' i).2 ≤ (sAt D i).2
  w : ∀ i x, wrongD B R i x ≤ wrongD B R' i x
section
variable {B D D' : List Pt} {R R' : List Rep}
theorem minW_more (N : Narrow B D R D' R') {i : Nat} (hi : i < D.length) : minW B R i (sAt D i) ≤ minW B R' i (sAt D' i) := by
  obtain ⟨h1, h2, h3⟩ := N.lo i hi
  unfold minW
  obtain ⟨a1, a2⟩ := minTo_le B R i (sAt D i).1 ((sAt D i).2 - (sAt D i).1 + 1).toNat
  rcases minTo_at B R' i (sAt D' i).1 ((sAt D' i).2 - (sAt D' i).1 + 1).toNat with h | ⟨j, hj, h⟩
  · omega
  · have h4 := a2 (j + ((sAt D' i).1 - (sAt D i).1).toNat) (by omega)
    have h5 := N.w i ((sAt D' i).1 + j)
    rw [show (sAt D i).1 + ((j + ((sAt D' i).1 - (sAt D i).1).toNat : Nat) : Int) = (sAt D' i).1 + j by omega] at h4
    omega
theorem fewS_more (N : Narrow B D R D' R') (but : List Int) : ∀ k, k ≤ D.length → fewS B D R but k ≤ fewS B D' R' but k
  | 0, _ => Nat.le_refl _
  | k + 1, h => by
    have h1 := fewS_more N but k (by omega)
    have h2 := minW_more N (i := k) (by omega)
    rw [fewS_succ, fewS_succ]
    split <;> omega
theorem fewV_more (N : Narrow B D R D' R') : fewV B D R ≤ fewV B D' R' := by
  unfold fewV; rw [N.len]; exact fewS_more N [] _ (Nat.le_refl _)
theorem totF_more (N : Narrow B D R D' R') (f : Int → Option Int) : ∀ k, k ≤ D.length → totF B D R f k ≤ totF B D' R' f k
  | 0, _ => Nat.le_refl _
  | k + 1, h => by
    have h1 := totF_more N f k (by omega)
    have h2 := minW_more N (i := k) (by omega)
    rw [totF_succ, totF_succ]
    cases f k with
    | none => dsimp only; omega
    | some x => dsimp only; have := N.w k x; omega
theorem canB_more (N : Narrow B D R D' R') {cw : Int} {d : Nat} {x : Int} (h : canB cw B D' R' d x = true) : canB cw B D R d x = true := by
  unfold canB at *
  have h1 := of_decide_eq_true h
  rw [N.len] at h1
  have h2 := totF_more N (oneF d x) D.length (Nat.le_refl _)
  exact decide_eq_true (by omega)
theorem mem_opsU {cw : Int} {d : Nat} {lo x : Int} : ∀ {j : Nat}, x ∈ opsU cw B D R d lo j ↔ lo ≤ x ∧ x < lo + j ∧ canB cw B D R d x = true
  | 0 => by simp [opsU]; intro h1 h2; omega
  | j + 1 => by
    rw [opsU_succ]
    split
    · rename_i h
      rw [List.mem_append, mem_opsU, List.mem_singleton]
      constructor
      · rintro (⟨h1, h2, h3⟩ | rfl)
        · exact ⟨h1, by omega, h3⟩
        · exact ⟨by omega, by omega, h⟩
      · rintro ⟨h1, h2, h3⟩
        by_cases e : x = lo + j
        · exact Or.inr e
        · exact Or.inl ⟨h1, by omega, h3⟩
    · rename_i h
      rw [mem_opsU]
      constructor
      · rintro ⟨h1, h2, h3⟩; exact ⟨h1, by omega, h3⟩
      · rintro ⟨h1, h2, h3⟩
        refine ⟨h1, ?_, h3⟩
        by_cases e : x = lo + j
        · subst e; exact absurd h3 h
        · omega
theorem mem_opsD {cw : Int} {d : Nat} {x : Int} : x ∈ opsD cw B D R d ↔ (sAt D d).1 ≤ x ∧ x ≤ (sAt D d).2 ∧ canB cw B D R d x = true := by
  unfold opsD
  rw [mem_opsU]
  constructor
  · rintro ⟨h1, h2, h3⟩; exact ⟨h1, by omega, h3⟩
  · rintro ⟨h1, h2, h3⟩; exact ⟨h1, by omega, h3⟩
theorem opsU_sum {cw : Int} {d : Nat} {lo : Int} : ∀ j, (opsU cw B D R d lo j).length = sumTo (fun i => if canB cw B D R d (lo + i) = true then 1 else 0) j
  | 0 => rfl
  | j + 1 => by
    rw [opsU_succ, sumTo_succ, ← opsU_sum j]
    split <;> simp
theorem opsD_more (N : Narrow B D R D' R') {cw : Int} {d : Nat} (hd : d < D.length) : (∀ x ∈ opsD cw B D' R' d, x ∈ opsD cw B D R d) ∧ (opsD cw B D' R' d).length ≤ (opsD cw B D R d).length := by
  obtain ⟨h1, h2, h3⟩ := N.lo d hd
  refine ⟨fun x hx => ?_, ?_⟩
  · obtain ⟨a1, a2, a3⟩ := mem_opsD.1 hx
    exact mem_opsD.2 ⟨by omega, by omega, canB_more N a3⟩
  · unfold opsD
    rw [opsU_sum, opsU_sum]
    refine sumTo_part (s := ((sAt D' d).1 - (sAt D d).1).toNat) (by omega) fun j hj => ?_
    rw [show (sAt D d).1 + ((j + ((sAt D' d).1 - (sAt D d).1).toNat : Nat) : Int) = (sAt D' d).1 + j by omega]
    split
    · rename_i h; rw [if_pos (canB_more N h)]; exact Nat.le_refl _
    · exact Nat.zero_le _
theorem mc_more (N : Narrow B D R D' R') : ∀ k c, k ≤ D.length → mc B D' R' k c ≤ mc B D R k c
  | 0, _, _ => Nat.le_refl _
  | k + 1, c, hk => by
    obtain ⟨h1, h2, h3⟩ := N.lo k (by omega)
    rw [mc_succ, mc_succ]
    refine sumTo_part (s := ((sAt D' k).1 - (sAt D k).1).toNat) (by unfold wid; omega) fun j hj => ?_
    refine Nat.le_trans (mc_more N k _ (by omega)) (mc_mono B D R k ?_)
    have := N.w k ((sAt D' k).1 + j)
    unfold wrO
    rw [show (sAt D k).1 + ((j + ((sAt D' k).1 - (sAt D k).1).toNat : Nat) : Int) = (sAt D' k).1 + j by omega]
    omega
/-- The least number is had. -/
theorem minW_had (hR : R.length ≤ 8) {i : Nat} (h : (sAt D i).1 ≤ (sAt D i).2) : ∃ j, j < wid D i ∧ wrO B D R i j = minW B R i (sAt D i) := by
  unfold wid wrO minW
  rcases minTo_at B R i (sAt D i).1 ((sAt D i).2 - (sAt D i).1 + 1).toNat with h1 | ⟨j, hj, h1⟩
  · have h2 := (minTo_le B R i (sAt D i).1 ((sAt D i).2 - (sAt D i).1 + 1).toNat).2 0 (by omega)
    have h3 := wrO_le hR B D i 0
    unfold wrO at h3
    exact ⟨0, by omega, by omega⟩
  · exact ⟨j, hj, h1.symm⟩
theorem mc_pos (hR : R.length ≤ 8) (hD : ∀ i, i < D.length → (sAt D i).1 ≤ (sAt D i).2) : ∀ k (c : Int), k ≤ D.length → (fewS B D R [] k : Int) ≤ c → 1 ≤ mc B D R k c
  | 0, c, _, h => by unfold mc; rw [if_pos (by simp [fewS] at h; exact h)]; exact Nat.le_refl _
  | k + 1, c, hk, h => by
    rw [mc_succ]
    rw [fewS_succ, if_neg (by simp)] at h
    obtain ⟨j, hj, e⟩ := minW_had (B := B) hR (hD k (by omega))
    exact Nat.le_trans (mc_pos hR hD k _ (by omega) (by omega)) (sumTo_ge (g := fun j => mc B D R k (c - wrO B D R k j)) hj)
theorem few_part (hD : ∀ i, i < D.length → (sAt D i).1 ≤ (sAt D i).2) : ∀ k, k ≤ D.length → fewS B D R [] k ≤ (R.filter fun r => decide (r.d < (k : Int)) && decide (0 ≤ r.d)).length
  | 0, _ => Nat.zero_le _
  | k + 1, hk => by
    have h1 := few_part hD k (by omega)
    have h2 : minW B R k (sAt D k) ≤ (R.filter fun r => decide (r.d = (k : Int))).length := by
      have h3 := (minTo_le B R k (sAt D k).1 ((sAt D k).2 - (sAt D k).1 + 1).toNat).2 0 (by have := hD k (by omega); omega)
      refine Nat.le_trans h3 ?_
      unfold wrongD wrongL
      rw [← List.countP_eq_length_filter, ← List.countP_eq_length_filter]
      refine List.countP_mono_left fun r _ h => ?_
      simp only [Bool.and_eq_true] at h
      exact h.1
    have h4 : (R.filter fun r => decide (r.d < (k : Int)) && decide (0 ≤ r.d)).length + (R.filter fun r => decide (r.d = (k : Int))).length ≤ (R.filter fun r => decide (r.d < ((k + 1 : Nat) : Int)) && decide (0 ≤ r.d)).length := by
      clear h1 h2
      induction R with
      | nil => simp
      | cons r R ih =>
        simp only [List.filter_cons]
        by_cases a : r.d = (k : Int)
        · rw [if_neg (by simp; omega), if_pos (by simpa using a), if_pos (by simp; omega), List.length_cons, List.length_cons]; omega
        · by_cases b : r.d < (k : Int) ∧ 0 ≤ r.d
          · rw [if_pos (by simp; omega), if_neg (by simpa using a), if_pos (by simp; omega), List.length_cons, List.length_cons]; omega
          · rw [if_neg (by simp; omega), if_neg (by simpa using a), if_neg (by simp; omega)]; omega
    rw [fewS_succ, if_neg (by simp)]
    omega
theorem few_le (hD : ∀ i, i < D.length → (sAt D i).1 ≤ (sAt D i).2) : fewV B D R ≤ R.length :=
  Nat.le_trans (few_part hD D.length (Nat.le_refl _)) (List.length_filter_le _ _)
end
theorem spans_of {cw : Int} {B D : List Pt} {R : List Rep} (hV : Val cw B D R) : ∀ i, i < D.length → (sAt D i).1 ≤ (sAt D i).2 := fun _ hi => (sAt_val hV hi).2.1
theorem opE_iff {cw : Int} {B D : List Pt} {R : List Rep} (h : chkE cw B D R = 0) : opE cw B D R true = if cw < fewV B D R then 3 else 0 := by
  unfold opE; rw [ask_ok h]; rfl
theorem narrow_same {cw : Int} {B D : List Pt} {R : List Rep} (hV : Val cw B D R) : Narrow B D R D R :=
  ⟨rfl, fun i hi => (by have := spans_of hV i hi; omega), fun _ _ => Nat.le_refl _⟩
/-- With one more report. -/
theorem narrow_report {cw : Int} {B D : List Pt} {R : List Rep} (hV : Val cw B D R) (r : Rep) : Narrow B D R D (R ++ [r]) := by
  refine ⟨rfl, fun i hi => ?_, fun i x => ?_⟩
  · have := spans_of hV i hi; omega
  · unfold wrongD; rw [wrongL_snoc]; omega
/-- With a narrower span. -/
theorem narrow_span {cw : Int} {B D : List Pt} {R : List Rep} {j : Nat} {l h : Int} (hl : 0 ≤ l) (hh : 0 ≤ h) (hV' : Val cw B (D.set j ((sAt D j).1 + l, (sAt D j).2 - h)) R) : Narrow B D R (D.set j ((sAt D j).1 + l, (sAt D j).2 - h)) R := by
  refine ⟨List.length_set, fun i hi => ?_, fun i x => Nat.le_refl _⟩
  have h1 := spans_of hV' i (by rw [List.length_set]; exact hi)
  by_cases e : i = j
  · subst e
    have h2 : sAt (D.set i ((sAt D i).1 + l, (sAt D i).2 - h)) i = ((sAt D i).1 + l, (sAt D i).2 - h) := by
      unfold sAt; rw [List.getD_eq_getElem?_getD, List.getElem?_set_self hi]; rfl
    rw [h2] at h1 ⊢
    dsimp only at h1 ⊢
    omega
  · have h2 : sAt (D.set j ((sAt D j).1 + l, (sAt D j).2 - h)) i = sAt D i := by
      unfold sAt; rw [List.getD_eq_getElem?_getD, List.getElem?_set_ne (Ne.symm e), List.getD_eq_getElem?_getD]
    rw [h2] at h1 ⊢
    omega
/-- What is asked of two coasts of which one tells more. -/
structure In2 (cw : Int) (B D : List Pt) (R : List Rep) (D' : List Pt) (R' : List Rep) (d : Nat) : Prop where
  op : opE cw B D R true = 0
  m1 : 1 ≤ manyN cw B D' R'
  m2 : manyN cw B D' R' ≤ manyN cw B D R
  sub : ∀ x ∈ opsD cw B D' R' d, x ∈ opsD cw B D R d
  len : (opsD cw B D' R' d).length ≤ (opsD cw B D R d).length
theorem in2_of {cw : Int} {B D D' : List Pt} {R R' : List Rep} {d : Nat} (hc : chkE cw B D R = 0) (hc' : chkE cw B D' R' = 0) (N : Narrow B D R D' R') (hd : d < D.length) (h : opE cw B D' R' true = 0) : In2 cw B D R D' R' d := by
  have hV := val_of (chk_ok hc)
  have hV' := val_of (chk_ok hc')
  have hf := fewV_more N
  have hf' : (fewV B D' R' : Int) ≤ cw := by
    rw [opE_iff hc'] at h
    split at h <;> omega
  have ho : opE cw B D R true = 0 := by rw [opE_iff hc, if_neg (by omega)]
  obtain ⟨h1, h2⟩ := opsD_more N (cw := cw) hd
  refine ⟨ho, ?_, ?_, h1, h2⟩
  · unfold manyN
    rw [if_pos h, manyV_mc hV']
    have := mc_pos (B := B) hV'.r (spans_of hV') D'.length cw (Nat.le_refl _) hf'
    omega
  · unfold manyN
    rw [if_pos h, if_pos ho, manyV_mc hV', manyV_mc hV, N.len]
    have := mc_more N D.length cw (Nat.le_refl _)
    omega

end Go.Proofs.YtibkgnnpmidgfaaDoor
