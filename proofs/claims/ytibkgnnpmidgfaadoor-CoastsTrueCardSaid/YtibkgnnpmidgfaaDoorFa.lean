/- Plain mathematics and walks: truths; Wrongs, IsTruth, all, known, Many, Fewest, Openings of the reference. -/
import Derived.Test.YtibkgnnpmidgfaaDoorCu
import Derived.Test.YtibkgnnpmidgfaaDoorCs
import Derived.Test.YtibkgnnpmidgfaaDoorEb
import Derived.Test.YtibkgnnpmidgfaaDoorCp
import Derived.Test.YtibkgnnpmidgfaaDoorCq
namespace Go.Proofs.YtibkgnnpmidgfaaDoor

theorem sumTo_tail {g : Nat → Nat} {m : Nat} (h : ∀ i, m ≤ i → g i = 0) : ∀ d, sumTo g (m + d) = sumTo g m
  | 0 => rfl
  | d + 1 => by rw [← Nat.add_assoc, sumTo_succ, sumTo_tail h d, h _ (by omega), Nat.add_zero]
theorem sumTo_shift (g : Nat → Nat) (a : Nat) : ∀ n, sumTo (fun v => if a ≤ v then g (v - a) else 0) n = sumTo g (n - a)
  | 0 => by rw [Nat.zero_sub]; rfl
  | n + 1 => by
    rw [sumTo_succ, sumTo_shift g a n]
    by_cases h : a ≤ n
    · rw [if_pos h, show n + 1 - a = (n - a) + 1 by omega, sumTo_succ]
    · rw [if_neg h, show n + 1 - a = 0 by omega, show n - a = 0 by omega]; rfl
theorem sumTo_split (g : Nat → Nat) (s : Nat) : ∀ m, sumTo g (s + m) = sumTo g s + sumTo (fun j => g (j + s)) m
  | 0 => rfl
  | m + 1 => by rw [← Nat.add_assoc, sumTo_succ, sumTo_split g s m, sumTo_succ, Nat.add_comm m s]; omega
theorem sumTo_mono {g h : Nat → Nat} : ∀ {n : Nat}, (∀ i, i < n → g i ≤ h i) → sumTo g n ≤ sumTo h n
  | 0, _ => Nat.le_refl _
  | n + 1, e => by
    have := sumTo_mono (n := n) (fun i hi => e i (by omega))
    have := e n (by omega)
    rw [sumTo_succ, sumTo_succ]; omega
/-- A part of a sum. -/
theorem sumTo_part {g h : Nat → Nat} {m n s : Nat} (hs : s + m ≤ n) (e : ∀ j, j < m → g j ≤ h (j + s)) : sumTo g m ≤ sumTo h n := by
  have h1 := sumTo_mono e
  have h2 := sumTo_split h s m
  have h3 := sumTo_split h (s + m) (n - (s + m))
  rw [show s + m + (n - (s + m)) = n by omega] at h3
  omega
theorem sumTo_ge {g : Nat → Nat} {j n : Nat} (hj : j < n) : g j ≤ sumTo g n := by
  have := sumTo_part (g := fun _ => g j) (h := g) (m := 1) (n := n) (s := j) (by omega) (fun i hi => by rw [show i = 0 by omega, Nat.zero_add]; exact Nat.le_refl _)
  simpa [sumTo] using this

/-- In how many ways at most c reports are wrong with openings of the first k pairs of dividers. -/
def mc (B D : List Pt) (R : List Rep) : Nat → Int → Nat
  | 0, c => if 0 ≤ c then 1 else 0
  | k + 1, c => sumTo (fun j => mc B D R k (c - wrO B D R k j)) (wid D k)
theorem mc_succ (B D : List Pt) (R : List Rep) (k : Nat) (c : Int) : mc B D R (k + 1) c = sumTo (fun j => mc B D R k (c - wrO B D R k j)) (wid D k) := rfl
theorem wrO_le {R : List Rep} (hR : R.length ≤ 8) (B D : List Pt) (k j : Nat) : wrO B D R k j ≤ 8 := by
  have := wrongL_le B k ((sAt D k).1 + j) R
  unfold wrO wrongD; omega
theorem mc_eq {B D : List Pt} {R : List Rep} (hR : R.length ≤ 8) : ∀ k c, k ≤ 4 → sumTo (fun v => if (v : Int) ≤ c then cn B D R k v else 0) 33 = mc B D R k c
  | 0, c, _ => by
    have e : ∀ v : Nat, v < 33 → (if (v : Int) ≤ c then cn B D R 0 v else 0) = if v = 0 then (if 0 ≤ c then 1 else 0) else 0 := by
      intro v _
      unfold cn
      by_cases h : v = 0
      · subst h; rfl
      · rw [if_neg h, if_neg h]; split <;> rfl
    rw [sumTo_congr e, sumTo_point]; rfl
  | k + 1, c, hk => by
    have e : ∀ v : Nat, v < 33 → (if (v : Int) ≤ c then cn B D R (k + 1) v else 0) = sumTo (fun j => if wrO B D R k j ≤ v then (fun u : Nat => if (u : Int) ≤ c - wrO B D R k j then cn B D R k u else 0) (v - wrO B D R k j) else 0) (wid D k) := by
      intro v _
      rw [cn_succ]
      by_cases h : (v : Int) ≤ c
      · rw [if_pos h]
        refine sumTo_congr fun j _ => ?_
        by_cases h2 : wrO B D R k j ≤ v
        · rw [if_pos h2, if_pos h2]
          show _ = if ((v - wrO B D R k j : Nat) : Int) ≤ c - wrO B D R k j then _ else 0
          rw [if_pos (by omega)]
        · rw [if_neg h2, if_neg h2]
      · rw [if_neg h]
        refine ((sumTo_congr (h := fun _ => 0) fun j _ => ?_).trans (sumTo_zero _)).symm
        split
        · show (if ((v - wrO B D R k j : Nat) : Int) ≤ c - wrO B D R k j then _ else 0) = 0
          rw [if_neg (by omega)]
        · rfl
    rw [sumTo_congr e, sumTo_swap, mc_succ]
    refine sumTo_congr fun j _ => ?_
    rw [sumTo_shift (fun u : Nat => if (u : Int) ≤ c - wrO B D R k j then cn B D R k u else 0), ← mc_eq hR k _ (by omega)]
    have hw := wrO_le hR B D k j
    have ht := sumTo_tail (g := fun u : Nat => if (u : Int) ≤ c - wrO B D R k j then cn B D R k u else 0) (m := 33 - wrO B D R k j) (fun i hi => by
      show (if (i : Int) ≤ c - wrO B D R k j then cn B D R k i else 0) = 0
      rw [cn_far hR k i (by omega)]; split <;> rfl) (wrO B D R k j)
    rw [show 33 - wrO B D R k j + wrO B D R k j = 33 by omega] at ht
    exact ht.symm
theorem manyV_mc {cw : Int} {B D : List Pt} {R : List Rep} (hV : Val cw B D R) : manyV cw B D R = mc B D R D.length cw := mc_eq hV.r _ _ hV.d
theorem mc_mono (B D : List Pt) (R : List Rep) : ∀ k {c d : Int}, c ≤ d → mc B D R k c ≤ mc B D R k d
  | 0, c, d, h => by unfold mc; split <;> split <;> omega
  | k + 1, c, d, h => by rw [mc_succ, mc_succ]; exact sumTo_mono fun j _ => mc_mono B D R k (by omega)

/-- One coast tells more than another one. -/
structure Narrow (B D : List Pt) (R : List Rep) (D' : List Pt) (R' : List Rep) : Prop where
  len : D'.length = D.length
  lo : ∀ i, i < D.length → (sAt D i).1 ≤ (sAt D' i).1 ∧ (sAt D' i).1 ≤ (sAt D' i).2 ∧ (sAt D' i).2 ≤ (sAt D i).2
  w : ∀ i x, wrongD B R i x ≤ wrongD B R' i x
section
variable {B D D' : List Pt} {R R' : List Rep}
theorem minW_more (N : Narrow B D R D' R') {i : Nat} (hi : i < D.length) : minW B R i (sAt D i) ≤ minW B R' i (sAt D' i) := by
  obtain ⟨h1, h2, h3⟩ := N.lo i hi
  unfold minW
  obtain ⟨a1, a2⟩ := minTo_le B R i (sAt D i).1 ((sAt D i).2 - (sAt D i).1 + 1).toNat
  rcases minTo_at B R' i (sAt D' i).1 ((sAt D' i).2 - (sAt D' i).1 + 1).toNat with h | ⟨j, hj, h⟩
  · omega
  · have h4 := a2 (j + ((sAt D' i).1 - (sAt D i).1).toNat) (by omega)
    have h5 := N.w i ((sAt D' i).1 + j)
    rw [show (sAt D i).1 + ((j + ((sAt D' i).1 - (sAt D i).1).toNat : Nat) : Int) = (sAt D' i).1 + j by omega] at h4
    omega
theorem fewS_more (N : Narrow B D R D' R') (but : List Int) : ∀ k, k ≤ D.length → fewS B D R but k ≤ fewS B D' R' but k
  | 0, _ => Nat.le_refl _
  | k + 1, h => by
    have h1 := fewS_more N but k (by omega)
    have h2 := minW_more N (i := k) (by omega)
    rw [fewS_succ, fewS_succ]
    split <;> omega
theorem fewV_more (N : Narrow B D R D' R') : fewV B D R ≤ fewV B D' R' := by
  unfold fewV; rw [N.len]; exact fewS_more N [] _ (Nat.le_refl _)
theorem totF_more (N : Narrow B D R D' R') (f : Int → Option Int) : ∀ k, k ≤ D.length → totF B D R f k ≤ totF B D' R' f k
  | 0, _ => Nat.le_refl _
  | k + 1, h => by
    have h1 := totF_more N f k (by omega)
    have h2 := minW_more N (i := k) (by omega)
    rw [totF_succ, totF_succ]
    cases f k with
    | none => dsimp only; omega
    | some x => dsimp only; have := N.w k x; omega
theorem canB_more (N : Narrow B D R D' R') {cw : Int} {d : Nat} {x : Int} (h : canB cw B D' R' d x = true) : canB cw B D R d x = true := by
  unfold canB at *
  have h1 := of_decide_eq_true h
  rw [N.len] at h1
  have h2 := totF_more N (oneF d x) D.length (Nat.le_refl _)
  exact decide_eq_true (by omega)
theorem mem_opsU {cw : Int} {d : Nat} {lo x : Int} : ∀ {j : Nat}, x ∈ opsU cw B D R d lo j ↔ lo ≤ x ∧ x < lo + j ∧ canB cw B D R d x = true
  | 0 => by simp [opsU]; intro h1 h2; omega
  | j + 1 => by
    rw [opsU_succ]
    split
    · rename_i h
      rw [List.mem_append, mem_opsU, List.mem_singleton]
      constructor
      · rintro (⟨h1, h2, h3⟩ | rfl)
        · exact ⟨h1, by omega, h3⟩
        · exact ⟨by omega, by omega, h⟩
      · rintro ⟨h1, h2, h3⟩
        by_cases e : x = lo + j
        · exact Or.inr e
        · exact Or.inl ⟨h1, by omega, h3⟩
    · rename_i h
      rw [mem_opsU]
      constructor
      · rintro ⟨h1, h2, h3⟩; exact ⟨h1, by omega, h3⟩
      · rintro ⟨h1, h2, h3⟩
        refine ⟨h1, ?_, h3⟩
        by_cases e : x = lo + j
        · subst e; exact absurd h3 h
        · omega
theorem mem_opsD {cw : Int} {d : Nat} {x : Int} : x ∈ opsD cw B D R d ↔ (sAt D d).1 ≤ x ∧ x ≤ (sAt D d).2 ∧ canB cw B D R d x = true := by
  unfold opsD
  rw [mem_opsU]
  constructor
  · rintro ⟨h1, h2, h3⟩; exact ⟨h1, by omega, h3⟩
  · rintro ⟨h1, h2, h3⟩; exact ⟨h1, by omega, h3⟩
theorem opsU_sum {cw : Int} {d : Nat} {lo : Int} : ∀ j, (opsU cw B D R d lo j).length = sumTo (fun i => if canB cw B D R d (lo + i) = true then 1 else 0) j
  | 0 => rfl
  | j + 1 => by
    rw [opsU_succ, sumTo_succ, ← opsU_sum j]
    split <;> simp
theorem opsD_more (N : Narrow B D R D' R') {cw : Int} {d : Nat} (hd : d < D.length) : (∀ x ∈ opsD cw B D' R' d, x ∈ opsD cw B D R d) ∧ (opsD cw B D' R' d).length ≤ (opsD cw B D R d).length := by
  obtain ⟨h1, h2, h3⟩ := N.lo d hd
  refine ⟨fun x hx => ?_, ?_⟩
  · obtain ⟨a1, a2, a3⟩ := mem_opsD.1 hx
    exact mem_opsD.2 ⟨by omega, by omega, canB_more N a3⟩
  · unfold opsD
    rw [opsU_sum, opsU_sum]
    refine sumTo_part (s := ((sAt D' d).1 - (sAt D d).1).toNat) (by omega) fun j hj => ?_
    rw [show (sAt D d).1 + ((j + ((sAt D' d).1 - (sAt D d).1).toNat : Nat) : Int) = (sAt D' d).1 + j by omega]
    split
    · rename_i h; rw [if_pos (canB_more N h)]; exact Nat.le_refl _
    · exact Nat.zero_le _
theorem mc_more (N : Narrow B D R D' R') : ∀ k c, k ≤ D.length → mc B D' R' k c ≤ mc B D R k c
  | 0, _, _ => Nat.le_refl _
  | k + 1, c, hk => by
    obtain ⟨h1, h2, h3⟩ := N.lo k (by omega)
    rw [mc_succ, mc_succ]
    refine sumTo_part (s := ((sAt D' k).1 - (sAt D k).1).toNat) (by unfold wid; omega) fun j hj => ?_
    refine Nat.le_trans (mc_more N k _ (by omega)) (mc_mono B D R k ?_)
    have := N.w k ((sAt D' k).1 + j)
    unfold wrO
    rw [show (sAt D k).1 + ((j + ((sAt D' k).1 - (sAt D k).1).toNat : Nat) : Int) = (sAt D' k).1 + j by omega]
    omega
/-- The least number is had. -/
theorem minW_had (hR : R.length ≤ 8) {i : Nat} (h : (sAt D i).1 ≤ (sAt D i).2) : ∃ j, j < wid D i ∧ wrO B D R i j = minW B R i (sAt D i) := by
  unfold wid wrO minW
  rcases minTo_at B R i (sAt D i).1 ((sAt D i).2 - (sAt D i).1 + 1).toNat with h1 | ⟨j, hj, h1⟩
  · have h2 := (minTo_le B R i (sAt D i).1 ((sAt D i).2 - (sAt D i).1 + 1).toNat).2 0 (by omega)
    have h3 := wrO_le hR B D i 0
    unfold wrO at h3
    exact ⟨0, by omega, by omega⟩
  · exact ⟨j, hj, h1.symm⟩
theorem mc_pos (hR : R.length ≤ 8) (hD : ∀ i, i < D.length → (sAt D i).1 ≤ (sAt D i).2) : ∀ k (c : Int), k ≤ D.length → (fewS B D R [] k : Int) ≤ c → 1 ≤ mc B D R k c
  | 0, c, _, h => by unfold mc; rw [if_pos (by simp [fewS] at h; exact h)]; exact Nat.le_refl _
  | k + 1, c, hk, h => by
    rw [mc_succ]
    rw [fewS_succ, if_neg (by simp)] at h
    obtain ⟨j, hj, e⟩ := minW_had (B := B) hR (hD k (by omega))
    exact Nat.le_trans (mc_pos hR hD k _ (by omega) (by omega)) (sumTo_ge (g := fun j => mc B D R k (c - wrO B D R k j)) hj)
theorem few_part (hD : ∀ i, i < D.length → (sAt D i).1 ≤ (sAt D i).2) : ∀ k, k ≤ D.length → fewS B D R [] k ≤ (R.filter fun r => decide (r.d < (k : Int)) && decide (0 ≤ r.d)).length
  | 0, _ => Nat.zero_le _
  | k + 1, hk => by
    have h1 := few_part hD k (by omega)
    have h2 : minW B R k (sAt D k) ≤ (R.filter fun r => decide (r.d = (k : Int))).length := by
      have h3 := (minTo_le B R k (sAt D k).1 ((sAt D k).2 - (sAt D k).1 + 1).toNat).2 0 (by have := hD k (by omega); omega)
      refine Nat.le_trans h3 ?_
      unfold wrongD wrongL
      rw [← List.countP_eq_length_filter, ← List.countP_eq_length_filter]
      refine List.countP_mono_left fun r _ h => ?_
      simp only [Bool.and_eq_true] at h
      exact h.1
    have h4 : (R.filter fun r => decide (r.d < (k : Int)) && decide (0 ≤ r.d)).length + (R.filter fun r => decide (r.d = (k : Int))).length ≤ (R.filter fun r => decide (r.d < ((k + 1 : Nat) : Int)) && decide (0 ≤ r.d)).length := by
      clear h1 h2
      induction R with
      | nil => simp
      | cons r R ih =>
        simp only [List.filter_cons]
        by_cases a : r.d = (k : Int)
        · rw [if_neg (by simp; omega), if_pos (by simpa using a), if_pos (by simp; omega), List.length_cons, List.length_cons]; omega
        · by_cases b : r.d < (k : Int) ∧ 0 ≤ r.d
          · rw [if_pos (by simp; omega), if_neg (by simpa using a), if_pos (by simp; omega), List.length_cons, List.length_cons]; omega
          · rw [if_neg (by simp; omega), if_neg (by simpa using a), if_neg (by simp; omega)]; omega
    rw [fewS_succ, if_neg (by simp)]
    omega
theorem few_le (hD : ∀ i, i < D.length → (sAt D i).1 ≤ (sAt D i).2) : fewV B D R ≤ R.length :=
  Nat.le_trans (few_part hD D.length (Nat.le_refl _)) (List.length_filter_le _ _)
end
theorem spans_of {cw : Int} {B D : List Pt} {R : List Rep} (hV : Val cw B D R) : ∀ i, i < D.length → (sAt D i).1 ≤ (sAt D i).2 := fun _ hi => (sAt_val hV hi).2.1
theorem opE_iff {cw : Int} {B D : List Pt} {R : List Rep} (h : chkE cw B D R = 0) : opE cw B D R true = if cw < fewV B D R then 3 else 0 := by
  unfold opE; rw [ask_ok h]; rfl
theorem narrow_same {cw : Int} {B D : List Pt} {R : List Rep} (hV : Val cw B D R) : Narrow B D R D R :=
  ⟨rfl, fun i hi => (by have := spans_of hV i hi; omega), fun _ _ => Nat.le_refl _⟩
/-- With one more report. -/
theorem narrow_report {cw : Int} {B D : List Pt} {R : List Rep} (hV : Val cw B D R) (r : Rep) : Narrow B D R D (R ++ [r]) := by
  refine ⟨rfl, fun i hi => ?_, fun i x => ?_⟩
  · have := spans_of hV i hi; omega
  · unfold wrongD; rw [wrongL_snoc]; omega
/-- With a narrower span. -/
theorem narrow_span {cw : Int} {B D : List Pt} {R : List Rep} {j : Nat} {l h : Int} (hl : 0 ≤ l) (hh : 0 ≤ h) (hV' : Val cw B (D.set j ((sAt D j).1 + l, (sAt D j).2 - h)) R) : Narrow B D R (D.set j ((sAt D j).1 + l, (sAt D j).2 - h)) R := by
  refine ⟨List.length_set, fun i hi => ?_, fun i x => Nat.le_refl _⟩
  have h1 := spans_of hV' i (by rw [List.length_set]; exact hi)
  by_cases e : i = j
  · subst e
    have h2 : sAt (D.set i ((sAt D i).1 + l, (sAt D i).2 - h)) i = ((sAt D i).1 + l, (sAt D i).2 - h) := by
      unfold sAt; rw [List.getD_eq_getElem?_getD, List.getElem?_set_self hi]; rfl
    rw [h2] at h1 ⊢
    dsimp only at h1 ⊢
    omega
  · have h2 : sAt (D.set j ((sAt D j).1 + l, (sAt D j).2 - h)) i = sAt D i := by
      unfold sAt; rw [List.getD_eq_getElem?_getD, List.getElem?_set_ne (Ne.symm e), List.getD_eq_getElem?_getD]
    rw [h2] at h1 ⊢
    omega
/-- What is asked of two coasts of which one tells more. -/
structure In2 (cw : Int) (B D : List Pt) (R : List Rep) (D' : List Pt) (R' : List Rep) (d : Nat) : Prop where
  op : opE cw B D R true = 0
  m1 : 1 ≤ manyN cw B D' R'
  m2 : manyN cw B D' R' ≤ manyN cw B D R
  sub : ∀ x ∈ opsD cw B D' R' d, x ∈ opsD cw B D R d
  len : (opsD cw B D' R' d).length ≤ (opsD cw B D R d).length
theorem in2_of {cw : Int} {B D D' : List Pt} {R R' : List Rep} {d : Nat} (hc : chkE cw B D R = 0) (hc' : chkE cw B D' R' = 0) (N : Narrow B D R D' R') (hd : d < D.length) (h : opE cw B D' R' true = 0) : In2 cw B D R D' R' d := by
  have hV := val_of (chk_ok hc)
  have hV' := val_of (chk_ok hc')
  have hf := fewV_more N
  have hf' : (fewV B D' R' : Int) ≤ cw := by
    rw [opE_iff hc'] at h
    split at h <;> omega
  have ho : opE cw B D R true = 0 := by rw [opE_iff hc, if_neg (by omega)]
  obtain ⟨h1, h2⟩ := opsD_more N (cw := cw) hd
  refine ⟨ho, ?_, ?_, h1, h2⟩
  · unfold manyN
    rw [if_pos h, manyV_mc hV']
    have := mc_pos (B := B) hV'.r (spans_of hV') D'.length cw (Nat.le_refl _) hf'
    omega
  · unfold manyN
    rw [if_pos h, if_pos ho, manyV_mc hV', manyV_mc hV, N.len]
    have := mc_more N D.length cw (Nat.le_refl _)
    omega

end Go.Proofs.YtibkgnnpmidgfaaDoor
namespace Go.Proofs.YtibkgnnpmidgfaaDoor

/-- A choice of openings. -/
structure Opn (D : List Pt) (l : List Int) : Prop where
  len : l.length = D.length
  at_ : ∀ i, i < D.length → (sAt D i).1 ≤ l.getD i 0 ∧ l.getD i 0 ≤ (sAt D i).2
/-- How many reports are wrong with it, by pairs of dividers. -/
def tot (B : List Pt) (R : List Rep) (l : List Int) (n : Nat) : Nat := sumTo (fun i => wrongD B R i (l.getD i 0)) n
def wrongsL (B : List Pt) (l : List Int) (R : List Rep) : Nat := (R.filter fun r => !rightB B r (l.getD r.d.toNat 0)).length
theorem wrongsL_snoc (B : List Pt) (l : List Int) (R : List Rep) (r : Rep) : wrongsL B l (R ++ [r]) = wrongsL B l R + (if rightB B r (l.getD r.d.toNat 0) = true then 0 else 1) := by
  unfold wrongsL
  rw [List.filter_append, List.length_append, List.filter_cons]
  cases rightB B r (l.getD r.d.toNat 0) <;> simp
theorem wrongsL_le (B : List Pt) (l : List Int) (R : List Rep) : wrongsL B l R ≤ R.length := List.length_filter_le _ _
theorem wrongs_part (B : List Pt) (l : List Int) (n : Nat) : ∀ rs : List Rep, (∀ r ∈ rs, 0 ≤ r.d ∧ r.d < (n : Int)) → wrongsL B l rs = sumTo (fun i => wrongL B i (l.getD i 0) rs) n
  | [], _ => by
    refine Eq.symm ((sumTo_congr (h := fun _ => 0) fun i _ => ?_).trans (sumTo_zero _))
    rfl
  | r :: rs, h => by
    have ih := wrongs_part B l n rs fun q hq => h q (List.mem_cons_of_mem _ hq)
    obtain ⟨h1, h2⟩ := h r (List.mem_cons_self ..)
    have e : ∀ i, i < n → wrongL B i (l.getD i 0) (r :: rs) = wrongL B i (l.getD i 0) rs + (if i = r.d.toNat then (if rightB B r (l.getD r.d.toNat 0) = true then 0 else 1) else 0) := by
      intro i _
      unfold wrongL
      rw [List.filter_cons]
      by_cases hi : i = r.d.toNat
      · subst hi
        rw [if_pos rfl]
        have : r.d = ((r.d.toNat : Nat) : Int) := by omega
        cases rightB B r (l.getD r.d.toNat 0)
        · rw [if_pos (by simp; omega)]; rfl
        · rw [if_neg (by simp), if_pos rfl]; rfl
      · rw [if_neg hi, if_neg (by simp; intro e; omega)]; rfl
    rw [sumTo_congr e, sumTo_add, ← ih, sumTo_point, if_pos (by omega)]
    unfold wrongsL
    rw [List.filter_cons]
    cases rightB B r (l.getD r.d.toNat 0) <;> simp
theorem wrongs_tot {cw : Int} {B D : List Pt} {R : List Rep} (hV : Val cw B D R) (l : List Int) : wrongsL B l R = tot B R l D.length :=
  wrongs_part B l D.length R fun r hr => by have := hV.rs r hr; omega
section
variable {B D : List Pt} {R : List Rep}
theorem minW_opn {l : List Int} (h : Opn D l) {i : Nat} (hi : i < D.length) : minW B R i (sAt D i) ≤ wrongD B R i (l.getD i 0) := by
  obtain ⟨h1, h2⟩ := h.at_ i hi
  have h3 := (minTo_le B R i (sAt D i).1 ((sAt D i).2 - (sAt D i).1 + 1).toNat).2 (l.getD i 0 - (sAt D i).1).toNat (by omega)
  rw [show (sAt D i).1 + ((l.getD i 0 - (sAt D i).1).toNat : Int) = l.getD i 0 by omega] at h3
  exact h3
/-- No choice has fewer wrong reports than is told at the least. -/
theorem tot_least {l : List Int} (h : Opn D l) {f : Int → Option Int} (hf : ∀ (i : Nat) (x : Int), f i = some x → i < D.length → l.getD i 0 = x) : ∀ k, k ≤ D.length → totF B D R f k ≤ tot B R l k
  | 0, _ => Nat.le_refl _
  | k + 1, hk => by
    have ih := tot_least h hf k (by omega)
    rw [totF_succ]
    unfold tot at *
    rw [sumTo_succ]
    cases hfk : f k with
    | none =>
      dsimp only
      have := minW_opn (B := B) (R := R) h (i := k) (by omega)
      omega
    | some x =>
      dsimp only
      have := hf k x hfk (by omega)
      rw [this]; omega
theorem getD_map_range {g : Nat → Int} {n i : Nat} (hi : i < n) : ((List.range n).map g).getD i 0 = g i := by
  rw [List.getD_eq_getElem?_getD, List.getElem?_map, List.getElem?_range hi]; rfl
/-- And one has as few. -/
theorem tot_had (hR : R.length ≤ 8) (hD : ∀ i, i < D.length → (sAt D i).1 ≤ (sAt D i).2) {f : Int → Option Int} (hf : ∀ (i : Nat) (x : Int), f i = some x → i < D.length → (sAt D i).1 ≤ x ∧ x ≤ (sAt D i).2) :
    ∃ l, Opn D l ∧ (∀ (i : Nat) (x : Int), f i = some x → i < D.length → l.getD i 0 = x) ∧ tot B R l D.length = totF B D R f D.length := by
  have each : ∀ i, i < D.length → ∃ x : Int, (sAt D i).1 ≤ x ∧ x ≤ (sAt D i).2 ∧ (∀ y, f i = some y → x = y) ∧ wrongD B R i x = (match f i with | some x => wrongD B R i x | none => minW B R i (sAt D i)) := by
    intro i hi
    cases hfi : f i with
    | some x => exact ⟨x, (hf i x hfi hi).1, (hf i x hfi hi).2, (fun y e => by cases e; rfl), rfl⟩
    | none =>
      obtain ⟨j, hj, he⟩ := minW_had (B := B) hR (hD i hi)
      unfold wid at hj
      exact ⟨(sAt D i).1 + j, by omega, by omega, (fun y e => by cases e), he⟩
  obtain ⟨g, hg⟩ : ∃ g : Nat → Int, ∀ i, i < D.length → (sAt D i).1 ≤ g i ∧ g i ≤ (sAt D i).2 ∧ (∀ y, f i = some y → g i = y) ∧ wrongD B R i (g i) = (match f i with | some x => wrongD B R i x | none => minW B R i (sAt D i)) := by
    classical
    refine ⟨fun i => if h : i < D.length then Classical.choose (each i h) else 0, fun i hi => ?_⟩
    simp only [hi, dif_pos]
    exact Classical.choose_spec (each i hi)
  refine ⟨(List.range D.length).map g, ⟨by simp, fun i hi => ?_⟩, fun i x hfi hi => ?_, ?_⟩
  · rw [getD_map_range hi]; exact ⟨(hg i hi).1, (hg i hi).2.1⟩
  · rw [getD_map_range hi]; exact (hg i hi).2.2.1 x hfi
  · have key : ∀ k, k ≤ D.length → tot B R ((List.range D.length).map g) k = totF B D R f k := by
      intro k
      induction k with
      | zero => intro _; rfl
      | succ k ih =>
        intro hk
        have h1 := ih (by omega)
        unfold tot at *
        rw [sumTo_succ, totF_succ, h1, getD_map_range (by omega), (hg k (by omega)).2.2.2]
        rfl
    exact key _ (Nat.le_refl _)
theorem few_totF (B D : List Pt) (R : List Rep) : ∀ k, fewS B D R [] k = totF B D R (fun _ => none) k
  | 0 => rfl
  | k + 1 => by rw [fewS_succ, totF_succ, few_totF B D R k, if_neg (by simp)]
/-- A truth. -/
def Tru (cw : Int) (B D : List Pt) (R : List Rep) (l : List Int) : Prop := Opn D l ∧ (tot B R l D.length : Int) ≤ cw
theorem few_least {l : List Int} (h : Opn D l) : fewV B D R ≤ tot B R l D.length := by
  unfold fewV; rw [few_totF]; exact tot_least h (fun i x e => by cases e) _ (Nat.le_refl _)
theorem few_had {cw : Int} (hV : Val cw B D R) : ∃ l, Opn D l ∧ tot B R l D.length = fewV B D R := by
  obtain ⟨l, h1, _, h3⟩ := tot_had (B := B) hV.r (spans_of hV) (f := fun _ => none) (fun i x e => by cases e)
  exact ⟨l, h1, by rw [h3]; unfold fewV; rw [few_totF]⟩
theorem ops_truth {cw : Int} (hV : Val cw B D R) {d : Nat} (hd : d < D.length) {x : Int} : x ∈ opsD cw B D R d ↔ ∃ l, Tru cw B D R l ∧ l.getD d 0 = x := by
  rw [mem_opsD]
  constructor
  · rintro ⟨h1, h2, h3⟩
    unfold canB at h3
    have h4 := of_decide_eq_true h3
    obtain ⟨l, h5, h6, h7⟩ := tot_had (B := B) (D := D) hV.r (spans_of hV) (f := oneF d x) (fun i y e hi => by
      obtain ⟨e1, e2⟩ := oneF_some e
      have : i = d := by omega
      subst this; subst e2; exact ⟨h1, h2⟩)
    exact ⟨l, ⟨h5, by rw [h7]; exact h4⟩, h6 d x (by unfold oneF upd; rw [if_pos rfl]) hd⟩
  · rintro ⟨l, ⟨h1, h2⟩, rfl⟩
    have h3 := h1.at_ d hd
    refine ⟨h3.1, h3.2, ?_⟩
    unfold canB
    have := tot_least (B := B) (R := R) h1 (f := oneF d (l.getD d 0)) (fun i y e hi => by
      obtain ⟨e1, e2⟩ := oneF_some e
      have : i = d := by omega
      subst this; exact e2.symm) D.length (Nat.le_refl _)
    exact decide_eq_true (by omega)
theorem two_truth {cw : Int} (hV : Val cw B D R) {a b : Nat} (ha : a < D.length) (hb : b < D.length) {x y : Int} : (x ∈ opsD cw B D R a ∧ y ∈ opsD cw B D R b ∧ okT cw B D R a b x y = true) ↔ ∃ l, Tru cw B D R l ∧ l.getD a 0 = x ∧ l.getD b 0 = y := by
  constructor
  · rintro ⟨hx, hy, h⟩
    unfold okT at h
    simp only [Bool.and_eq_true, Bool.not_eq_true', Bool.and_eq_false_iff, decide_eq_false_iff_not, decide_eq_true_eq] at h
    obtain ⟨h1, h2⟩ := h
    have hx' := mem_opsD.1 hx
    have hy' := mem_opsD.1 hy
    obtain ⟨l, h5, h6, h7⟩ := tot_had (B := B) (D := D) hV.r (spans_of hV) (f := twoF a b x y) (fun i z e hi => by
      rcases twoF_some e with ⟨e1, e2⟩ | ⟨e1, e2⟩
      · have : i = b := by omega
        subst this; subst e2; exact ⟨hy'.1, hy'.2.1⟩
      · have : i = a := by omega
        subst this; subst e2; exact ⟨hx'.1, hx'.2.1⟩)
    have hlb : l.getD b 0 = y := h6 b y (by unfold twoF; rw [upd, if_pos rfl]) hb
    refine ⟨l, ⟨h5, by rw [h7]; exact h2⟩, ?_, hlb⟩
    by_cases e : a = b
    · subst e
      rcases h1 with h1 | h1
      · exact absurd rfl h1
      · rw [hlb]
        false_or_by_contra
        exact h1 (fun e => by omega)
    · exact h6 a x (by unfold twoF; rw [upd, if_neg (by omega), upd, if_pos rfl]) ha
  · rintro ⟨l, ht, rfl, rfl⟩
    refine ⟨(ops_truth hV ha).2 ⟨l, ht, rfl⟩, (ops_truth hV hb).2 ⟨l, ht, rfl⟩, ?_⟩
    unfold okT
    simp only [Bool.and_eq_true, Bool.not_eq_true', Bool.and_eq_false_iff, decide_eq_false_iff_not, decide_eq_true_eq]
    refine ⟨?_, ?_⟩
    · by_cases e : a = b
      · subst e; right; exact fun h => h rfl
      · left; exact e
    · have := tot_least (B := B) (R := R) ht.1 (f := twoF a b (l.getD a 0) (l.getD b 0)) (fun i z e hi => by
        rcases twoF_some e with ⟨e1, e2⟩ | ⟨e1, e2⟩
        · have : i = b := by omega
          subst this; exact e2.symm
        · have : i = a := by omega
          subst this; exact e2.symm) D.length (Nat.le_refl _)
      have := ht.2
      omega
end
/-- All choices that begin with some openings. -/
def allP (D : List Pt) : Nat → List Int → List (List Int)
  | 0, _ => []
  | n + 1, fs => if fs.length = D.length then [fs] else (List.range (wid D fs.length)).flatMap fun j : Nat => allP D n (fs ++ [(sAt D fs.length).1 + (j : Int)])
def allJ (D : List Pt) (n : Nat) (fs : List Int) (j : Nat) : List (List Int) := (List.range j).flatMap fun j : Nat => allP D n (fs ++ [(sAt D fs.length).1 + (j : Int)])
theorem allJ_zero (D : List Pt) (n : Nat) (fs : List Int) : allJ D n fs 0 = [] := rfl
theorem allJ_succ (D : List Pt) (n : Nat) (fs : List Int) (j : Nat) : allJ D n fs (j + 1) = allJ D n fs j ++ allP D n (fs ++ [(sAt D fs.length).1 + (j : Int)]) := by
  unfold allJ
  rw [List.range_succ, List.flatMap_append]; simp
theorem allP_at {D : List Pt} {n : Nat} {fs : List Int} (h : fs.length = D.length) : allP D (n + 1) fs = [fs] := by rw [allP, if_pos h]
theorem allP_on {D : List Pt} {n : Nat} {fs : List Int} (h : fs.length ≠ D.length) : allP D (n + 1) fs = allJ D n fs (wid D fs.length) := by rw [allP, if_neg h]; rfl
theorem getD_app {fs s : List Int} {i : Nat} (h : i < fs.length) : (fs ++ s).getD i 0 = fs.getD i 0 := by
  rw [List.getD_eq_getElem?_getD, List.getElem?_append_left h, List.getD_eq_getElem?_getD]
theorem mem_allP {D : List Pt} {l : List Int} : ∀ {n : Nat} {fs : List Int}, fs.length ≤ D.length → D.length - fs.length < n →
    (l ∈ allP D n fs ↔ l.length = D.length ∧ (∃ s, l = fs ++ s) ∧ ∀ i, fs.length ≤ i → i < D.length → (sAt D i).1 ≤ l.getD i 0 ∧ l.getD i 0 ≤ (sAt D i).2)
  | 0, fs, h1, h2 => by omega
  | n + 1, fs, h1, h2 => by
    by_cases e : fs.length = D.length
    · rw [allP_at e, List.mem_singleton]
      constructor
      · rintro rfl; exact ⟨e, ⟨[], by simp⟩, fun i h3 h4 => by omega⟩
      · rintro ⟨h3, ⟨s, rfl⟩, _⟩
        have : s = [] := List.eq_nil_of_length_eq_zero (by rw [List.length_append] at h3; omega)
        rw [this, List.append_nil]
    · rw [allP_on e]
      unfold allJ
      rw [List.mem_flatMap]
      constructor
      · rintro ⟨j, hj, hm⟩
        have hj' := List.mem_range.1 hj
        obtain ⟨h3, ⟨s, rfl⟩, h4⟩ := (mem_allP (by rw [List.length_append, List.length_singleton]; omega) (by rw [List.length_append, List.length_singleton]; omega)).1 hm
        refine ⟨h3, ⟨_ :: s, by rw [List.append_assoc]; rfl⟩, fun i h5 h6 => ?_⟩
        by_cases ei : i = fs.length
        · subst ei
          have hg : ((fs ++ [(sAt D fs.length).1 + (j : Int)]) ++ s).getD fs.length 0 = (sAt D fs.length).1 + j := by
            rw [getD_app (by simp), List.getD_eq_getElem?_getD]; simp
          rw [hg]
          unfold wid at hj'
          omega
        · exact h4 i (by rw [List.length_append, List.length_singleton]; omega) h6
      · rintro ⟨h3, ⟨s, rfl⟩, h4⟩
        cases s with
        | nil => rw [List.append_nil] at h3; exact absurd h3 e
        | cons y s =>
          have hg : (fs ++ y :: s).getD fs.length 0 = y := by rw [List.getD_eq_getElem?_getD]; simp
          have h5 := h4 fs.length (Nat.le_refl _) (by omega)
          rw [hg] at h5
          refine ⟨(y - (sAt D fs.length).1).toNat, List.mem_range.2 (by unfold wid; omega), ?_⟩
          rw [show (sAt D fs.length).1 + ((y - (sAt D fs.length).1).toNat : Int) = y by omega]
          refine (mem_allP (by rw [List.length_append, List.length_singleton]; omega) (by rw [List.length_append, List.length_singleton]; omega)).2 ⟨h3, ⟨s, by rw [List.append_assoc]; rfl⟩, fun i h6 h7 => ?_⟩
          rw [List.length_append, List.length_singleton] at h6
          exact h4 i (by omega) h7
theorem mem_all {D : List Pt} {l : List Int} : l ∈ allP D (D.length + 1) [] ↔ Opn D l := by
  rw [mem_allP (by simp) (by simp)]
  constructor
  · rintro ⟨h1, _, h3⟩; exact ⟨h1, fun i hi => h3 i (by simp) hi⟩
  · rintro ⟨h1, h2⟩; exact ⟨h1, ⟨l, rfl⟩, fun i _ hi => h2 i hi⟩
theorem len_flat (g : Nat → List (List Int)) (p : List Int → Bool) : ∀ m, (((List.range m).flatMap g).filter p).length = sumTo (fun j => ((g j).filter p).length) m
  | 0 => rfl
  | m + 1 => by
    rw [List.range_succ, List.flatMap_append, List.filter_append, List.length_append, len_flat g p m, sumTo_succ]
    simp
theorem all_pow {D : List Pt} (hw : ∀ k, wid D k ≤ 60) : ∀ {n : Nat} {fs : List Int}, (allP D n fs).length ≤ 60 ^ n
  | 0, fs => Nat.zero_le _
  | n + 1, fs => by
    by_cases e : fs.length = D.length
    · rw [allP_at e]; exact Nat.one_le_pow _ _ (by decide)
    · rw [allP_on e]
      have h := len_flat (fun j : Nat => allP D n (fs ++ [(sAt D fs.length).1 + (j : Int)])) (fun _ => true) (wid D fs.length)
      have ht : ∀ l : List (List Int), l.filter (fun _ => true) = l := fun l => by simp
      rw [ht] at h
      unfold allJ
      rw [h]
      refine Nat.le_trans (sumTo_le (c := 60 ^ n) fun j _ => ?_) ?_
      · rw [ht]; exact all_pow hw
      · rw [Nat.pow_succ, Nat.mul_comm]; exact Nat.mul_le_mul_left _ (hw _)
theorem allJ_pow {D : List Pt} (hw : ∀ k, wid D k ≤ 60) {n : Nat} {fs : List Int} {j : Nat} (hj : j ≤ 60) : (allJ D n fs j).length ≤ 60 ^ (n + 1) := by
  have h := len_flat (fun j : Nat => allP D n (fs ++ [(sAt D fs.length).1 + (j : Int)])) (fun _ => true) j
  have ht : ∀ l : List (List Int), l.filter (fun _ => true) = l := fun l => by simp
  rw [ht] at h
  unfold allJ
  rw [h]
  refine Nat.le_trans (sumTo_le (c := 60 ^ n) fun j _ => ?_) ?_
  · rw [ht]; exact all_pow hw
  · rw [Nat.pow_succ, Nat.mul_comm]; exact Nat.mul_le_mul_left _ hj

section
variable (B D : List Pt) (R : List Rep)
/-- A sum over all choices of the first k openings. -/
def Gs : Nat → (Nat → Nat) → Nat
  | 0, F => F 0
  | k + 1, F => sumTo (fun j => Gs k (fun s => F (s + wrO B D R k j))) (wid D k)
theorem Gs_sum : ∀ (k m : Nat) (H : Nat → Nat → Nat), Gs B D R k (fun s => sumTo (fun j => H j s) m) = sumTo (fun j => Gs B D R k (H j)) m
  | 0, m, H => rfl
  | k + 1, m, H => by
    show sumTo (fun i => Gs B D R k (fun s => sumTo (fun j => H j (s + wrO B D R k i)) m)) (wid D k) = _
    rw [sumTo_congr (h := fun i => sumTo (fun j => Gs B D R k (fun s => H j (s + wrO B D R k i))) m) (fun i _ => Gs_sum k m (fun j s => H j (s + wrO B D R k i))), sumTo_swap]
    rfl
theorem mc_Gs : ∀ (k : Nat) (c : Int), mc B D R k c = Gs B D R k (fun s => if (s : Int) ≤ c then 1 else 0)
  | 0, c => by unfold mc Gs; simp
  | k + 1, c => by
    rw [mc_succ]
    show _ = sumTo (fun j => Gs B D R k (fun s => if ((s + wrO B D R k j : Nat) : Int) ≤ c then 1 else 0)) (wid D k)
    refine sumTo_congr fun j _ => ?_
    rw [mc_Gs k]
    congr 1
    funext s
    by_cases h : (s : Int) ≤ c - wrO B D R k j
    · rw [if_pos h, if_pos (by omega)]
    · rw [if_neg h, if_neg (by omega)]
/-- In how many ways the last d openings can be chosen, s reports being wrong before. -/
def Nn (F : Nat → Nat) : Nat → Nat → Nat
  | 0, s => F s
  | d + 1, s => sumTo (fun j => Nn F d (s + wrO B D R (D.length - (d + 1)) j)) (wid D (D.length - (d + 1)))
theorem Gs_Nn (F : Nat → Nat) : ∀ d, d ≤ D.length → Gs B D R (D.length - d) (Nn B D R F d) = Gs B D R D.length F
  | 0, _ => rfl
  | d + 1, h => by
    rw [← Gs_Nn F d (by omega), show D.length - d = (D.length - (d + 1)) + 1 by omega]
    show Gs B D R (D.length - (d + 1)) (fun s => sumTo (fun j => Nn B D R F d (s + wrO B D R (D.length - (d + 1)) j)) (wid D (D.length - (d + 1)))) = _
    rw [Gs_sum]
    rfl
theorem count_all (p : Nat → Bool) : ∀ {n : Nat} {fs : List Int}, fs.length ≤ D.length → D.length - fs.length < n →
    ((allP D n fs).filter fun l => p (tot B R l D.length)).length = Nn B D R (fun s => if p s = true then 1 else 0) (D.length - fs.length) (tot B R fs fs.length)
  | 0, fs, h1, h2 => by omega
  | n + 1, fs, h1, h2 => by
    by_cases e : fs.length = D.length
    · rw [allP_at e, e, Nat.sub_self, List.filter_cons]
      unfold Nn
      split <;> simp_all
    · rw [allP_on e]
      unfold allJ
      rw [len_flat, show D.length - fs.length = (D.length - fs.length - 1) + 1 by omega]
      show _ = sumTo (fun j => Nn B D R _ (D.length - fs.length - 1) (tot B R fs fs.length + wrO B D R (D.length - (D.length - fs.length - 1 + 1)) j)) (wid D (D.length - (D.length - fs.length - 1 + 1)))
      rw [show D.length - (D.length - fs.length - 1 + 1) = fs.length by omega]
      refine sumTo_congr fun j _ => ?_
      rw [count_all p (by rw [List.length_append, List.length_singleton]; omega) (by rw [List.length_append, List.length_singleton]; omega)]
      have ht : tot B R (fs ++ [(sAt D fs.length).1 + (j : Int)]) (fs.length + 1) = tot B R fs fs.length + wrO B D R fs.length j := by
        unfold tot
        rw [sumTo_succ]
        have e1 : (fs ++ [(sAt D fs.length).1 + (j : Int)]).getD fs.length 0 = (sAt D fs.length).1 + j := by rw [List.getD_eq_getElem?_getD]; simp
        rw [e1]
        have e2 : ∀ i, i < fs.length → wrongD B R i ((fs ++ [(sAt D fs.length).1 + (j : Int)]).getD i 0) = wrongD B R i (fs.getD i 0) := fun i hi => by rw [getD_app hi]
        rw [sumTo_congr e2]; rfl
      rw [List.length_append, List.length_singleton, ht, show D.length - (fs.length + 1) = D.length - fs.length - 1 by omega]
end
/-- All truths. -/
def truL (cw : Int) (B D : List Pt) (R : List Rep) : List (List Int) := (allP D (D.length + 1) []).filter fun l => decide ((tot B R l D.length : Int) ≤ cw)
theorem mem_tru {cw : Int} {B D : List Pt} {R : List Rep} {l : List Int} : l ∈ truL cw B D R ↔ Tru cw B D R l := by
  unfold truL Tru
  rw [List.mem_filter, mem_all, decide_eq_true_eq]
theorem tru_many {cw : Int} {B D : List Pt} {R : List Rep} (hV : Val cw B D R) : (truL cw B D R).length = manyV cw B D R := by
  unfold truL
  have h := count_all B D R (fun s => decide ((s : Int) ≤ cw)) (n := D.length + 1) (fs := []) (by simp) (by simp)
  simp only [decide_eq_true_eq] at h
  rw [h, manyV_mc hV, mc_Gs]
  have h2 := Gs_Nn B D R (fun s => if (s : Int) ≤ cw then 1 else 0) D.length (Nat.le_refl _)
  rw [Nat.sub_self] at h2
  rw [← h2]
  rfl
theorem tru_nil {cw : Int} {B D : List Pt} {R : List Rep} (hV : Val cw B D R) : truL cw B D R = [] ↔ cw < fewV B D R := by
  constructor
  · intro h
    false_or_by_contra
    rename_i hlt
    obtain ⟨l, h1, h2⟩ := few_had hV
    have : l ∈ truL cw B D R := mem_tru.2 ⟨h1, by rw [h2]; omega⟩
    rw [h] at this; cases this
  · intro h
    refine List.eq_nil_iff_forall_not_mem.2 fun l hl => ?_
    obtain ⟨h1, h2⟩ := mem_tru.1 hl
    have := few_least (B := B) (R := R) h1
    omega

end Go.Proofs.YtibkgnnpmidgfaaDoor
namespace Go.Proofs.YtibkgnnpmidgfaaDoor
open Go.RowKit

theorem opn_bounds {cw : Int} {B D : List Pt} {R : List Rep} (hV : Val cw B D R) {l : List Int} (h : Opn D l) {i : Nat} (hi : i < D.length) : 1 ≤ l.getD i 0 ∧ l.getD i 0 ≤ 60 := by
  have h1 := h.at_ i hi
  have h2 := sAt_val hV hi
  omega
theorem getD_at {l : List Int} {i : Nat} (h : i < l.length) : l[i]? = some (l.getD i 0) := by
  rw [List.getD_eq_getElem?_getD, List.getElem?_eq_getElem h]; rfl

set_option maxRecDepth 100000 in
set_option maxHeartbeats 8000000 in
theorem wrongs49 (A0 A1 A2 : Option Addr) (n0 n1 n2 c0 c1 c2 : Nat) (cw : Int) (A : Option Addr) (c : Nat) (l : List Int) (B D : List Pt) (R : List Rep) (w : World) (hC : RdC w A0 A1 A2 n0 n1 n2 B D R) (hV : Hid (Val cw B D R)) (hl : RdI w A l) (hO : Hid (Opn D l)) :
    Calls Tryd.prog 49 #[.agg #[.slice A0 n0 c0, .slice A1 n1 c1, .slice A2 n2 c2, .int .i64 cw], .slice A l.length c] w fun e w' => e = .returned (.int .i64 (wrongsL B l R)) ∧ Below w.heap.size w w' := by
  have HC := Lib.hid hC
  have HX := Lib.hid hl
  have HL2 := Lib.hid hC.h2
  have hn2 : n2 ≤ 8 := by have := hV.out.r; have := HL2.out; omega
  have HLL : Hid (l.length = D.length) := hO.out.len
  have o0 : Own (w.alloc (.cells #[.slice A0 n0 c0, .slice A1 n1 c1, .slice A2 n2 c2, .int .i64 cw] 26)) w.heap.size [.slice A0 n0 c0, .slice A1 n1 c1, .slice A2 n2 c2, .int .i64 cw] := Own.new' _ _ rfl rfl
  have oB : Below w.heap.size w (w.alloc (.cells #[.slice A0 n0 c0, .slice A1 n1 c1, .slice A2 n2 c2, .int .i64 cw] 26)) := by (repeat' (first | (with_reducible exact Below.refl _ _) | (with_reducible assumption) | (with_reducible refine Below.drew ?_) | (with_reducible refine below_drewN ?_ _) | (with_reducible refine Below.setCell ?_ ?_ _) | (with_reducible refine Below.alloc ?_ ?_ _) | (refine Below.trans ?_ (Below.mono (by with_reducible assumption) ?_)) | omega | (exact Below.size (by with_reducible assumption)) | (simp; done) | (simp; omega)))
  clear hC hl
  go_enter Tryd.func49, Tryd.ntmps49
  go_wp2
  go_loopg [5, 6] n2 (fun K x y wr => ∃ k : Nat, K + k = n2 ∧ y = .int .i64 k ∧ x = .int .i64 (wrongsL B l (R.take k)) ∧ Own wr w.heap.size [.slice A0 n0 c0, .slice A1 n1 c1, .slice A2 n2 c2, .int .i64 cw] ∧ Below w.heap.size w wr)
  case atStart => exact ⟨0, by omega, rfl, rfl, o0, oB⟩
  case round =>
    clear o0 oB
    obtain ⟨wo, rfl⟩ : ∃ wo : World, wo = wr := ⟨_, rfl⟩
    obtain ⟨k, hk, rfl, rfl, q0, hbw⟩ := hrel
    have hwl : wrongsL B l (R.take k) ≤ 8 := by
      have := wrongsL_le B l (R.take k)
      rw [List.length_take] at this
      have := HL2.out
      omega
    obtain ⟨W, hW⟩ : ∃ x, wrongsL B l (R.take k) = x := ⟨_, rfl⟩
    rw [hW] at hwl ⊢
    have HW := Lib.hid hW
    clear hW
    obtain ⟨l0, k0, f0⟩ := q0
    have q0 := Own.mk l0 k0 f0
    by_cases hlt : k < n2
    · obtain ⟨r, hr⟩ : ∃ r, Hid (R[k]? = some r) := ⟨R[k]'(by have := HL2.out; omega), by simp [Hid]⟩
      have hrm := List.mem_of_getElem? hr.out
      obtain ⟨v1, v2, v3, v4, v5, v6, v7⟩ := hV.out.rs r hrm
      have HT : Hid (wrongsL B l (R.take (k + 1)) = W + (if rightB B r (l.getD r.d.toNat 0) = true then 0 else 1)) := by show _ = _; rw [take_snoc hr.out, wrongsL_snoc, HW.out]
      obtain ⟨d, f, t, s⟩ := r
      dsimp only at v1 v2 v3 v4 v5 v6 v7 HT
      obtain ⟨d, rfl⟩ := Int.eq_ofNat_of_zero_le v1
      rw [Int.toNat_natCast] at HT
      have hdl : d < l.length := by have := HLL.out; omega
      obtain ⟨b, off, rfl, hb, e0, e1, e2, e3⟩ := rd_rep (HC.out.below hbw (Nat.le_refl _)).r2 hr.out
      dsimp only at e0 e1 e2 e3
      have hob := opn_bounds hV.out hO.out (i := d) (by have := HLL.out; omega)
      obtain ⟨x, hx⟩ : ∃ x, l.getD d 0 = x := ⟨_, rfl⟩
      have hat := getD_at hdl
      rw [hx] at hat hob HT
      obtain ⟨b9, o9, rfl, hb9, g9⟩ := (HX.out.below hbw (Nat.le_refl _)).elem hat
      have hx0 := Aft.cell q0
      have hx1 := fun s : Aft wo => (Aft.old s hb _).trans e0
      have hx2 := fun s : Aft wo => (Aft.old s hb _).trans e1
      have hx3 := fun s : Aft wo => (Aft.old s hb _).trans e2
      have hx4 := fun s : Aft wo => (Aft.old s hb _).trans e3
      have hx5 := fun s : Aft wo => (Aft.old s hb9 _).trans g9
      have HR := Lib.hid (fun s' : Aft wo => isRight50 A0 A1 (some ⟨b, off, none⟩) n0 n1 n2 c0 c1 c2 cw ⟨d, f, t, s⟩ x B D R s'.w ((HC.out.below hbw (Nat.le_refl _)).below s'.h (Nat.le_refl _)) hV hob hrm)
      dsimp only at HR
      clear e0 e1 e2 e3 g9 hat hx hrm
      cases hq : rightB B ⟨d, f, t, s⟩ x
      · rw [hq] at HR HT
        clear hq
        go_wp2
        refine wp_region_aft (by kernel_rfl) (by kernel_rfl) ?_; (repeat (go_big_quiet_step ((go_at_call 50; exact aft_of (HR.out _))))); refine wpQuiet_nil ?_; rintro w7 ⟨⟨_, hb7⟩, rfl⟩
        have p0 := q0.below hb7 q0.lt
        have hB7 : Below w.heap.size w w7 := by (repeat' (first | (with_reducible exact Below.refl _ _) | (with_reducible assumption) | (with_reducible refine Below.drew ?_) | (with_reducible refine below_drewN ?_ _) | (with_reducible refine Below.setCell ?_ ?_ _) | (with_reducible refine Below.alloc ?_ ?_ _) | (refine Below.trans ?_ (Below.mono (by with_reducible assumption) ?_)) | omega | (exact Below.size (by with_reducible assumption)) | (simp; done) | (simp; omega)))
        go_wp2
        go_roundg (n2 - (k + 1))
        case measure => omega
        case rel => exact ⟨k + 1, by omega, by go_num, by rw [HT.out]; go_num, p0, hB7⟩
      · rw [hq] at HR HT
        clear hq
        go_wp2
        refine wp_region_aft (by kernel_rfl) (by kernel_rfl) ?_; (repeat (go_big_quiet_step ((go_at_call 50; exact aft_of (HR.out _))))); refine wpQuiet_nil ?_; rintro w7 ⟨⟨_, hb7⟩, rfl⟩
        have p0 := q0.below hb7 q0.lt
        have hB7 : Below w.heap.size w w7 := by (repeat' (first | (with_reducible exact Below.refl _ _) | (with_reducible assumption) | (with_reducible refine Below.drew ?_) | (with_reducible refine below_drewN ?_ _) | (with_reducible refine Below.setCell ?_ ?_ _) | (with_reducible refine Below.alloc ?_ ?_ _) | (refine Below.trans ?_ (Below.mono (by with_reducible assumption) ?_)) | omega | (exact Below.size (by with_reducible assumption)) | (simp; done) | (simp; omega)))
        go_wp2
        go_roundg (n2 - (k + 1))
        case measure => omega
        case rel => exact ⟨k + 1, by omega, by go_num, by rw [HT.out]; rfl, p0, hB7⟩
    · have hkn : n2 = k := by omega
      have HE : Hid (wrongsL B l R = W) := by show _ = _; rw [← HW.out, List.take_of_length_le (by have := HL2.out; omega)]
      go_wp2
      go_ret
      exact ⟨by rw [HE.out]; rfl, hbw⟩

/-- Is this choice a truth? -/
def inB (D : List Pt) (l : List Int) : Bool := (List.range D.length).all fun i => btw (l.getD i 0) (sAt D i).1 (sAt D i).2
def truB (cw : Int) (B D : List Pt) (R : List Rep) (l : List Int) : Bool := decide (l.length = D.length) && inB D l && decide ((wrongsL B l R : Int) ≤ cw)
theorem opn_inB {D : List Pt} {l : List Int} (h1 : l.length = D.length) (h2 : inB D l = true) : Opn D l := by
  refine ⟨h1, fun i hi => ?_⟩
  unfold inB at h2
  exact btw_iff.1 (List.all_eq_true.1 h2 i (List.mem_range.2 hi))
theorem inB_opn {D : List Pt} {l : List Int} (h : Opn D l) : inB D l = true := by
  unfold inB
  rw [List.all_eq_true]
  intro i hi
  exact btw_iff.2 (h.at_ i (List.mem_range.1 hi))
theorem truB_iff {cw : Int} {B D : List Pt} {R : List Rep} (hV : Val cw B D R) {l : List Int} : truB cw B D R l = true ↔ Tru cw B D R l := by
  unfold truB Tru
  rw [wrongs_tot hV]
  simp only [Bool.and_eq_true, decide_eq_true_eq]
  constructor
  · rintro ⟨⟨h1, h2⟩, h3⟩; exact ⟨opn_inB h1 h2, h3⟩
  · rintro ⟨h1, h2⟩; exact ⟨⟨h1.len, inB_opn h1⟩, h2⟩
theorem sAt_at {D : List Pt} {i : Nat} {p : Pt} (h : D[i]? = some p) : sAt D i = p := by unfold sAt; rw [List.getD_eq_getElem?_getD, h]; rfl

set_option maxRecDepth 100000 in
set_option maxHeartbeats 8000000 in
theorem isTruth48 (A0 A1 A2 : Option Addr) (n0 n1 n2 c0 c1 c2 : Nat) (cw : Int) (A : Option Addr) (c : Nat) (l : List Int) (B D : List Pt) (R : List Rep) (w : World) (hC : RdC w A0 A1 A2 n0 n1 n2 B D R) (hV : Hid (Val cw B D R)) (hl : RdI w A l) (hll : l.length ≤ 140737488355328) :
    Calls Tryd.prog 48 #[.agg #[.slice A0 n0 c0, .slice A1 n1 c1, .slice A2 n2 c2, .int .i64 cw], .slice A l.length c] w fun e w' => e = .returned (.bool (truB cw B D R l)) ∧ Below w.heap.size w w' := by
  have HC := Lib.hid hC
  have HX := Lib.hid hl
  have HL1 := Lib.hid hC.h1
  have o0 : Own (w.alloc (.cells #[.slice A0 n0 c0, .slice A1 n1 c1, .slice A2 n2 c2, .int .i64 cw] 26)) w.heap.size [.slice A0 n0 c0, .slice A1 n1 c1, .slice A2 n2 c2, .int .i64 cw] := Own.new' _ _ rfl rfl
  have oB : Below w.heap.size w (w.alloc (.cells #[.slice A0 n0 c0, .slice A1 n1 c1, .slice A2 n2 c2, .int .i64 cw] 26)) := by (repeat' (first | (with_reducible exact Below.refl _ _) | (with_reducible assumption) | (with_reducible refine Below.drew ?_) | (with_reducible refine below_drewN ?_ _) | (with_reducible refine Below.setCell ?_ ?_ _) | (with_reducible refine Below.alloc ?_ ?_ _) | (refine Below.trans ?_ (Below.mono (by with_reducible assumption) ?_)) | omega | (exact Below.size (by with_reducible assumption)) | (simp; done) | (simp; omega)))
  clear hC hl
  go_enter Tryd.func48, Tryd.ntmps48
  by_cases hn : l.length = n1
  · have HN := Lib.hid hn
    have HD : Hid (l.length = D.length) := by show _ = _; rw [hn, HL1.out]
    have hne : (((l.length : Nat) : Int) == ((n1 : Nat) : Int)) = true := by simp; omega
    rw [hn]
    go_wp2
    go_loopg [5] n1 (fun K y wr => ∃ k : Nat, K + k = n1 ∧ y = .int .i64 k ∧ Hid (∀ i, i < k → btw (l.getD i 0) (sAt D i).1 (sAt D i).2 = true) ∧ Own wr w.heap.size [.slice A0 n0 c0, .slice A1 n1 c1, .slice A2 n2 c2, .int .i64 cw] ∧ Below w.heap.size w wr)
    case atStart => exact ⟨0, by omega, rfl, fun i h => by omega, o0, oB⟩
    case round =>
      clear o0 oB
      obtain ⟨wo, rfl⟩ : ∃ wo : World, wo = wr := ⟨_, rfl⟩
      obtain ⟨k, hk, rfl, hin, q0, hbw⟩ := hrel
      obtain ⟨l0, k0, f0⟩ := q0
      have q0 := Own.mk l0 k0 f0
      by_cases hlt : k < n1
      · obtain ⟨⟨lo, hi⟩, hp⟩ : ∃ g, Hid (D[k]? = some g) := ⟨D[k]'(by have := HL1.out; omega), by simp [Hid]⟩
        have HS := Lib.hid (sAt_at hp.out)
        obtain ⟨b, off, rfl, hb, e0, e1⟩ := rd_pt (HC.out.below hbw (Nat.le_refl _)).r1 hp.out
        dsimp only at e0 e1
        obtain ⟨x, hx⟩ : ∃ x, l.getD k 0 = x := ⟨_, rfl⟩
        have hat := getD_at (show k < l.length by have := HN.out; omega)
        rw [hx] at hat
        have HXX := Lib.hid hx
        obtain ⟨b9, o9, rfl, hb9, g9⟩ := (HX.out.below hbw (Nat.le_refl _)).elem hat
        have hx0 := Aft.cell q0
        have hx1 := fun s : Aft wo => (Aft.old s hb _).trans e0
        have hx2 := fun s : Aft wo => (Aft.old s hb _).trans e1
        have hx5 := fun s : Aft wo => (Aft.old s hb9 _).trans g9
        clear e0 e1 g9 hat hx
        cases hq : btw x lo hi
        · have HQ := Lib.hid hq
          have HF : Hid (truB cw B D R l = false) := by
            show _ = _
            unfold truB
            rw [show inB D l = false from by
              unfold inB
              rw [List.all_eq_false]
              exact ⟨k, List.mem_range.2 (by have := HL1.out; omega), by rw [HXX.out, HS.out, HQ.out]; simp⟩]
            simp
          clear hq
          go_wp2
          refine wp_region_aft (by kernel_rfl) (by kernel_rfl) ?_; (repeat (go_big_quiet_step ((go_at_call 52; exact aft_same (cbP HQ.out (within52 _ _ _ _)))))); refine wpQuiet_nil ?_; rintro w7 ⟨⟨_, hb7⟩, rfl⟩
          go_wp2
          go_ret
          exact ⟨ret_bool HF.out.symm, by (repeat' (first | (with_reducible exact Below.refl _ _) | (with_reducible assumption) | (with_reducible refine Below.drew ?_) | (with_reducible refine below_drewN ?_ _) | (with_reducible refine Below.setCell ?_ ?_ _) | (with_reducible refine Below.alloc ?_ ?_ _) | (refine Below.trans ?_ (Below.mono (by with_reducible assumption) ?_)) | omega | (exact Below.size (by with_reducible assumption)) | (simp; done) | (simp; omega)))⟩
        · have HQ := Lib.hid hq
          clear hq
          go_wp2
          refine wp_region_aft (by kernel_rfl) (by kernel_rfl) ?_; (repeat (go_big_quiet_step ((go_at_call 52; exact aft_same (cbP HQ.out (within52 _ _ _ _)))))); refine wpQuiet_nil ?_; rintro w7 ⟨⟨_, hb7⟩, rfl⟩
          have p0 := q0.below hb7 q0.lt
          have hB7 : Below w.heap.size w w7 := by (repeat' (first | (with_reducible exact Below.refl _ _) | (with_reducible assumption) | (with_reducible refine Below.drew ?_) | (with_reducible refine below_drewN ?_ _) | (with_reducible refine Below.setCell ?_ ?_ _) | (with_reducible refine Below.alloc ?_ ?_ _) | (refine Below.trans ?_ (Below.mono (by with_reducible assumption) ?_)) | omega | (exact Below.size (by with_reducible assumption)) | (simp; done) | (simp; omega)))
          go_wp2
          go_roundg (n1 - (k + 1))
          case measure => omega
          case rel =>
            refine ⟨k + 1, by omega, by go_num, fun i hi => ?_, p0, hB7⟩
            by_cases e : i = k
            · subst e; rw [HXX.out, HS.out]; exact HQ.out
            · exact hin.out i (by omega)
      · have hkn : n1 = k := by omega
        subst hkn
        have HIN : Hid (inB D l = true) := by
          show _ = _
          unfold inB
          rw [List.all_eq_true]
          intro i hi
          exact hin.out i (by have := List.mem_range.1 hi; have := HL1.out; omega)
        have HO := Lib.hid (opn_inB HD.out HIN.out)
        have HT : Hid (truB cw B D R l = decide ((wrongsL B l R : Int) ≤ cw)) := by show _ = _; unfold truB; rw [HIN.out, decide_eq_true HD.out]; rfl
        obtain ⟨W, hW⟩ : ∃ x, wrongsL B l R = x := ⟨_, rfl⟩
        have HWR := wrongs49 A0 A1 A2 n0 n1 n2 c0 c1 c2 cw A c l B D R wo.drew (HC.out.below hbw.drew (Nat.le_refl _)) hV (HX.out.below hbw.drew (Nat.le_refl _)) HO
        rw [HN.out, hW] at HWR
        have HWR := Lib.hid HWR
        rw [hW] at HT
        clear hW
        go_wp2
        refine rg_start (fun w' => Own w' w.heap.size [.slice A0 n0 c0, .slice A1 n1 c1, .slice A2 n2 c2, .int .i64 cw]) 7 (by kernel_rfl) rfl ?_
        refine rg_take (fuel := 3) [0, 1, 3, 4] (by kernel_rfl) (by intro _ _ d _ _ h; cases d <;> exact h) rfl (by kernel_rfl) (by kernel_rfl) q0.drew ?_
        simp only [pickL, pick1, List.cons_append, List.nil_append]
        iterate 4 (refine wpTake_cons (v := ?_) (Or.inl ⟨by rfl, ?_⟩) ?_; rotate_left; (intro w' hSw; have y0 : w'.cell? ⟨w.heap.size, 0, none⟩ = some (.slice A0 n0 c0) := hSw.c 0; have y1 : w'.cell? ⟨w.heap.size, 1, none⟩ = some (.slice A1 n1 c1) := hSw.c 1; have y2 : w'.cell? ⟨w.heap.size, 2, none⟩ = some (.slice A2 n2 c2) := hSw.c 2; have y3 : w'.cell? ⟨w.heap.size, 3, none⟩ = some (.int .i64 cw) := hSw.c 3; clear hSw; go_simp; (try with_reducible rfl)); (try simp only [Act.put, List.setIfInBounds_toArray, List.set_cons_zero, List.set_cons_succ]))
        refine wpTake_nil ?_
        have r0 := q0.drew
        have hBw := hbw.drew
        clear q0 l0 k0 f0 hbw
        refine rg_one (fuel := 2) 2 rfl (by kernel_rfl) (by kernel_rfl) ?_
        simp only [pick1, wpHead]
        intro K hK
        rw [if_pos (by rfl)]
        go_simp
        refine HWR.out.mono ?_
        rintro e w7 ⟨rfl, hb7⟩
        replace r0 := r0.below hb7 r0.lt
        replace hBw := hBw.trans (hb7.mono hBw.size)
        clear hb7
        go_wp2_with fail
        refine hK.out _ _ r0 ?_
        clear hK
        (try simp only [Act.put, List.setIfInBounds_toArray, List.set_cons_zero, List.set_cons_succ])
        refine rg_one (fuel := 1) 5 rfl (by kernel_rfl) (by kernel_rfl) ?_
        simp only [pick1, wpHead]
        intro K hK
        rw [if_pos (by rfl)]
        go_simp
        refine hK.out _ _ r0 ?_
        clear hK
        (try simp only [Act.put, List.setIfInBounds_toArray, List.set_cons_zero, List.set_cons_succ])
        refine rg_one (fuel := 0) 6 rfl (by kernel_rfl) (by kernel_rfl) ?_
        simp only [pick1, wpHead]
        intro K hK
        rw [if_pos (by rfl)]
        go_simp
        refine hK.out _ _ r0 ?_
        clear hK
        (try simp only [Act.put, List.setIfInBounds_toArray, List.set_cons_zero, List.set_cons_succ])
        refine rg_done (by kernel_rfl) ?_
        go_wp2
        go_ret
        exact ⟨ret_bool HT.out.symm, hBw⟩
  · have HF : Hid (truB cw B D R l = false) := by
      show _ = _
      unfold truB
      rw [decide_eq_false (by have := HL1.out; omega)]; rfl
    have hne : (((l.length : Nat) : Int) == ((n1 : Nat) : Int)) = false := by simp; omega
    go_wp2
    go_ret
    exact ⟨ret_bool HF.out.symm, by (repeat' (first | (with_reducible exact Below.refl _ _) | (with_reducible assumption) | (with_reducible refine Below.drew ?_) | (with_reducible refine below_drewN ?_ _) | (with_reducible refine Below.setCell ?_ ?_ _) | (with_reducible refine Below.alloc ?_ ?_ _) | (refine Below.trans ?_ (Below.mono (by with_reducible assumption) ?_)) | omega | (exact Below.size (by with_reducible assumption)) | (simp; done) | (simp; omega)))⟩

end Go.Proofs.YtibkgnnpmidgfaaDoor
namespace Go.Proofs.YtibkgnnpmidgfaaDoor
open Go.RowKit

set_option maxRecDepth 100000 in
set_option maxHeartbeats 8000000 in
theorem all77 (A0 A1 A2 : Option Addr) (n0 n1 n2 c0 c1 c2 : Nat) (cw : Int) (B D : List Pt) (R : List Rep) (hV : Hid (Val cw B D R)) : ∀ (n : Nat) (fs : List Int) (A : Option Addr) (c : Nat) (w : World), RdC w A0 A1 A2 n0 n1 n2 B D R → fs.length ≤ D.length → D.length - fs.length < n → n ≤ 5 → RdI w A fs → TyB w A 3 →
    Calls Tryd.prog 77 #[.agg #[.slice A0 n0 c0, .slice A1 n1 c1, .slice A2 n2 c2, .int .i64 cw], .slice A fs.length c] w fun e w' => ∃ (A' : Option Addr) (c' : Nat), e = .returned (.slice A' (allP D n fs).length c') ∧ RdLL w' A' (allP D n fs) ∧ Below w.heap.size w w'
  | 0, fs, A, c, w, hC, h1, h2, h3, h6, h7 => by omega
  | n + 1, fs, A, c, w, hC, h1, h2, h3, h6, h7 => by
    obtain ⟨i0, hi0, hi1, hi2, hi3⟩ := info_parts Tryd.info3
    obtain ⟨j0, hj0, hj1, hj2, hj3⟩ := info_parts info46
    have HC := Lib.hid hC
    have HF := Lib.hid h6
    have HT := Lib.hid h7
    have HL1 := Lib.hid hC.h1
    have hn1 : n1 ≤ 4 := by have := hV.out.d; have := HL1.out; omega
    have h1' : fs.length ≤ n1 := by have := HL1.out; omega
    have h2' : n1 - fs.length < n + 1 := by have := HL1.out; omega
    have o0 : Own (w.alloc (.cells #[.slice A0 n0 c0, .slice A1 n1 c1, .slice A2 n2 c2, .int .i64 cw] 26)) w.heap.size [.slice A0 n0 c0, .slice A1 n1 c1, .slice A2 n2 c2, .int .i64 cw] := Own.new' _ _ rfl rfl
    have oB : Below w.heap.size w (w.alloc (.cells #[.slice A0 n0 c0, .slice A1 n1 c1, .slice A2 n2 c2, .int .i64 cw] 26)) := by (repeat' (first | (with_reducible exact Below.refl _ _) | (with_reducible assumption) | (with_reducible refine Below.drew ?_) | (with_reducible refine below_drewN ?_ _) | (with_reducible refine Below.setCell ?_ ?_ _) | (with_reducible refine Below.alloc ?_ ?_ _) | (refine Below.trans ?_ (Below.mono (by with_reducible assumption) ?_)) | omega | (exact Below.size (by with_reducible assumption)) | (simp; done) | (simp; omega)))
    have HRec := Lib.hid (all77 A0 A1 A2 n0 n1 n2 c0 c1 c2 cw B D R hV n)
    have hw60 := Lib.hid (wid_le hV.out)
    clear hC h6 h7 all77 h1 h2
    go_enter Tryd.func77, Tryd.ntmps77
    by_cases hnt : fs.length = n1
    · have HW : Hid (allP D (n + 1) fs = [fs]) := allP_at (by have := HL1.out; omega)
      have t1 : OwnT ((w.alloc (.cells #[.slice A0 n0 c0, .slice A1 n1 c1, .slice A2 n2 c2, .int .i64 cw] 26)).alloc (.cells #[.slice A fs.length c] 46)) (w.heap.size + 1) 46 [.slice A fs.length c] := by
        have := OwnT.new (w.alloc (.cells #[.slice A0 n0 c0, .slice A1 n1 c1, .slice A2 n2 c2, .int .i64 cw] 26)) #[.slice A fs.length c] 46
        simpa using this
      have hB2 : Below w.heap.size w ((w.alloc (.cells #[.slice A0 n0 c0, .slice A1 n1 c1, .slice A2 n2 c2, .int .i64 cw] 26)).alloc (.cells #[.slice A fs.length c] 46)) := by (repeat' (first | (with_reducible exact Below.refl _ _) | (with_reducible assumption) | (with_reducible refine Below.drew ?_) | (with_reducible refine below_drewN ?_ _) | (with_reducible refine Below.setCell ?_ ?_ _) | (with_reducible refine Below.alloc ?_ ?_ _) | (refine Below.trans ?_ (Below.mono (by with_reducible assumption) ?_)) | omega | (exact Below.size (by with_reducible assumption)) | (simp; done) | (simp; omega)))
      have HLL : Hid (RdLL ((w.alloc (.cells #[.slice A0 n0 c0, .slice A1 n1 c1, .slice A2 n2 c2, .int .i64 cw] 26)).alloc (.cells #[.slice A fs.length c] 46)) (some ⟨w.heap.size + 1, 0, none⟩) [fs]) :=
        ⟨[(A, fs.length, c)], t1.rdSl, InL.one rfl (HF.out.below hB2 (Nat.le_refl _)) (HT.out.below hB2 (Nat.le_refl _))⟩
      have heq : (((fs.length : Nat) : Int) == ((n1 : Nat) : Int)) = true := by simp; omega
      clear t1 hnt
      go_wp2
      go_ret
      rw [HW.out]
      exact ⟨_, _, rfl, HLL.out, hB2⟩
    · have hne : (((fs.length : Nat) : Int) == ((n1 : Nat) : Int)) = false := by simp; omega
      have HW : Hid (allP D (n + 1) fs = allJ D n fs (wid D fs.length)) := allP_on (by have := HL1.out; omega)
      have hlt : fs.length < n1 := by omega
      obtain ⟨⟨lo, hi⟩, hp⟩ : ∃ g, Hid (D[fs.length]? = some g) := ⟨D[fs.length]'(by have := HL1.out; omega), by simp [Hid]⟩
      have HS := Lib.hid (sAt_at hp.out)
      obtain ⟨hv1, hv2, hv3⟩ := hV.out.ds _ (List.mem_of_getElem? hp.out)
      dsimp only at hv1 hv2 hv3
      obtain ⟨wd, hwd⟩ : ∃ x : Nat, x = (hi - lo + 1).toNat := ⟨_, rfl⟩
      have hwd2 : (wd : Int) = hi - lo + 1 := by omega
      have HWD : Hid (wid D fs.length = wd) := by show _ = _; unfold wid; rw [HS.out]; exact hwd.symm
      rw [HWD.out] at HW
      clear hwd
      obtain ⟨b, off, rfl, hb, e0, e1⟩ := rd_pt (HC.out.below oB (Nat.le_refl _)).r1 hp.out
      dsimp only at e0 e1
      have o1 : Own ((w.alloc (.cells #[.slice A0 n0 c0, .slice (some ⟨b, off, none⟩) n1 c1, .slice A2 n2 c2, .int .i64 cw] 26)).alloc (.cells #[.int .i64 lo, .int .i64 hi] 33)) (w.heap.size + 1) [.int .i64 lo, .int .i64 hi] := Own.new' _ _ (by simp) rfl
      have o2 : Own ((w.alloc (.cells #[.slice A0 n0 c0, .slice (some ⟨b, off, none⟩) n1 c1, .slice A2 n2 c2, .int .i64 cw] 26)).alloc (.cells #[.int .i64 lo, .int .i64 hi] 33)) w.heap.size [.slice A0 n0 c0, .slice (some ⟨b, off, none⟩) n1 c1, .slice A2 n2 c2, .int .i64 cw] := o0.alloc _
      have oB2 : Below w.heap.size w ((w.alloc (.cells #[.slice A0 n0 c0, .slice (some ⟨b, off, none⟩) n1 c1, .slice A2 n2 c2, .int .i64 cw] 26)).alloc (.cells #[.int .i64 lo, .int .i64 hi] 33)) := by (repeat' (first | (with_reducible exact Below.refl _ _) | (with_reducible assumption) | (with_reducible refine Below.drew ?_) | (with_reducible refine below_drewN ?_ _) | (with_reducible refine Below.setCell ?_ ?_ _) | (with_reducible refine Below.alloc ?_ ?_ _) | (refine Below.trans ?_ (Below.mono (by with_reducible assumption) ?_)) | omega | (exact Below.size (by with_reducible assumption)) | (simp; done) | (simp; omega)))
      clear hne
      have hne : (((fs.length : Nat) : Int) == ((n1 : Nat) : Int)) = false := by simp; omega
      go_wp2
      go_loopg [5, 7] wd (fun K v y wr => ∃ (k : Nat) (xs : List Sl), K + k = wd ∧ y = .int .i64 (lo + (k : Int)) ∧ Own wr w.heap.size [.slice A0 n0 c0, .slice (some ⟨b, off, none⟩) n1 c1, .slice A2 n2 c2, .int .i64 cw] ∧ Own wr (w.heap.size + 1) [.int .i64 lo, .int .i64 hi] ∧ Gro wr (w.heap.size + 2) 46 1 v (xs.map slrow) ∧ InL wr xs (allJ D n fs k) ∧ Below w.heap.size w wr)
      case atStart => exact ⟨0, [], by omega, (by simp), o2, o1, Gro.nil _ _ _ _, InL.nil _, oB2⟩
      case round =>
        clear o0 oB o1 o2 oB2 e0 e1 hb
        obtain ⟨k, xs, hk, rfl, q0, q1, hg, hin, hbw⟩ := hrel
        obtain ⟨wo, rfl⟩ : ∃ wo : World, wo = wr := ⟨_, rfl⟩
        obtain ⟨PA, pc, rfl, hrd⟩ := hg.out
        have hxl := Lib.hid hin.len
        rw [List.length_map]
        rw [List.length_map] at hg
        obtain ⟨l0, k0, f0⟩ := q0
        have q0 := Own.mk l0 k0 f0
        obtain ⟨l1, k1, f1⟩ := q1
        have q1 := Own.mk l1 k1 f1
        by_cases hkt : k < wd
        · have HJ : Hid (allJ D n fs (k + 1) = allJ D n fs k ++ allP D n (fs ++ [lo + (k : Int)])) := by show _ = _; rw [allJ_succ, HS.out]
          have p0 := q0
          have p1 := q1
          have g4 := hg
          have i4 := hin
          have hB4 := hbw
          obtain ⟨w4, rfl⟩ : ∃ x : World, x = wo := ⟨_, rfl⟩
          have h60 : (60 : Nat) ^ (n + 1) ≤ 60 ^ 5 := Nat.pow_le_pow_right (by decide) (by omega)
          have h61 : (60 : Nat) ^ n ≤ 60 ^ 5 := Nat.pow_le_pow_right (by decide) (by omega)
          have HWJ : Hid ((allJ D n fs k).length ≤ 777600000) := Nat.le_trans (allJ_pow hw60.out (by omega)) h60
          have HWF : Hid ((allP D n (fs ++ [lo + (k : Int)])).length ≤ 777600000) := Nat.le_trans (all_pow hw60.out) h61
          clear h60 h61 hrd
          go_wp2
          clear q0 q1 hg hin hbw l0 k0 f0 l1 k1 f1
          replace p0 := p0.drew
          replace p1 := p1.drew
          replace hB4 := hB4.drew
          replace g4 : Gro w4.drew _ _ _ _ _ := g4
          replace i4 := i4.below (Below.refl w4.heap.size w4).drew (Nat.le_refl _)
          refine rg_start (fun w' => Own w' w.heap.size [.slice A0 n0 c0, .slice (some ⟨b, off, none⟩) n1 c1, .slice A2 n2 c2, .int .i64 cw]) 11 (by kernel_rfl) rfl ?_
          refine rg_take (fuel := 7) [0, 1, 3, 5] (by kernel_rfl) (by intro _ _ d _ _ h; cases d <;> exact h) rfl (by kernel_rfl) (by kernel_rfl) p0 ?_
          simp only [pickL, pick1, List.cons_append, List.nil_append]
          (refine wpTake_cons (v := ?_) (Or.inl ⟨by rfl, ?_⟩) ?_; rotate_left; (intro w' hSw; have y0 : w'.cell? ⟨w.heap.size, 0, none⟩ = some (.slice A0 n0 c0) := hSw.c 0; have y1 : w'.cell? ⟨w.heap.size, 1, none⟩ = some (.slice (some ⟨b, off, none⟩) n1 c1) := hSw.c 1; have y2 : w'.cell? ⟨w.heap.size, 2, none⟩ = some (.slice A2 n2 c2) := hSw.c 2; have y3 : w'.cell? ⟨w.heap.size, 3, none⟩ = some (.int .i64 cw) := hSw.c 3; clear hSw; go_simp; (try with_reducible rfl)); (try simp only [Act.put, List.setIfInBounds_toArray, List.set_cons_zero, List.set_cons_succ]))
          (refine wpTake_cons (v := ?_) (Or.inl ⟨by rfl, ?_⟩) ?_; rotate_left; (intro w' hSw; have y0 : w'.cell? ⟨w.heap.size, 0, none⟩ = some (.slice A0 n0 c0) := hSw.c 0; have y1 : w'.cell? ⟨w.heap.size, 1, none⟩ = some (.slice (some ⟨b, off, none⟩) n1 c1) := hSw.c 1; have y2 : w'.cell? ⟨w.heap.size, 2, none⟩ = some (.slice A2 n2 c2) := hSw.c 2; have y3 : w'.cell? ⟨w.heap.size, 3, none⟩ = some (.int .i64 cw) := hSw.c 3; clear hSw; go_simp; (try with_reducible rfl)); (try simp only [Act.put, List.setIfInBounds_toArray, List.set_cons_zero, List.set_cons_succ]))
          (refine wpTake_cons (v := ?_) (Or.inl ⟨by rfl, ?_⟩) ?_; rotate_left; (intro w' hSw; have y0 : w'.cell? ⟨w.heap.size, 0, none⟩ = some (.slice A0 n0 c0) := hSw.c 0; have y1 : w'.cell? ⟨w.heap.size, 1, none⟩ = some (.slice (some ⟨b, off, none⟩) n1 c1) := hSw.c 1; have y2 : w'.cell? ⟨w.heap.size, 2, none⟩ = some (.slice A2 n2 c2) := hSw.c 2; have y3 : w'.cell? ⟨w.heap.size, 3, none⟩ = some (.int .i64 cw) := hSw.c 3; clear hSw; go_simp; (try with_reducible rfl)); (try simp only [Act.put, List.setIfInBounds_toArray, List.set_cons_zero, List.set_cons_succ]))
          (refine wpTake_cons (v := ?_) (Or.inl ⟨by rfl, ?_⟩) ?_; rotate_left; (intro w' hSw; have y0 : w'.cell? ⟨w.heap.size, 0, none⟩ = some (.slice A0 n0 c0) := hSw.c 0; have y1 : w'.cell? ⟨w.heap.size, 1, none⟩ = some (.slice (some ⟨b, off, none⟩) n1 c1) := hSw.c 1; have y2 : w'.cell? ⟨w.heap.size, 2, none⟩ = some (.slice A2 n2 c2) := hSw.c 2; have y3 : w'.cell? ⟨w.heap.size, 3, none⟩ = some (.int .i64 cw) := hSw.c 3; clear hSw; go_simp; (try with_reducible rfl)); (try simp only [Act.put, List.setIfInBounds_toArray, List.set_cons_zero, List.set_cons_succ]))
          refine wpTake_nil ?_
          generalize World.drew _ = w4 at p0 p1 hB4 g4 i4 ⊢
          have hN := Below.refl w4.heap.size w4
          have ow := p0
          have hBw := hB4
          refine rg_many (fuel := 6) [2, 6] rfl (by simp) (by kernel_rfl) (by kernel_rfl) ?_
          intro cc hcc
          rcases (show cc = 2 ∨ cc = 6 by simpa using hcc) with rfl | rfl
          · intro K hK
            simp only [pick1]
            refine step_empty (K := K) rfl 46 3 1 w4.heap.size rfl (by kernel_rfl) i0 hi0 hN.size ?_
            intro g4x W' G4 hb
            replace hN := hN.trans (hb.mono hN.size)
            have ow := p0.below hN p0.lt
            have hBw := hB4.trans (hN.mono hB4.size)
            refine hK.out _ _ ow ?_
            clear hb hK
            (try simp only [Act.put, List.setIfInBounds_toArray, List.set_cons_zero, List.set_cons_succ])
            refine rg_many (fuel := 5) [4, 6] rfl (by simp) (by kernel_rfl) (by kernel_rfl) ?_
            intro cc hcc
            rcases (show cc = 4 ∨ cc = 6 by simpa using hcc) with rfl | rfl
            · intro K hK
              simp only [pick1]
              refine step_fill (K := K) rfl (.tmp 32) (.tmp 33) 46 rfl w4.heap.size 3 i0 (.int .i64 0) 1 8 (by kernel_rfl) hi0 hi1 hi2 hi3 rfl (by decide) g4x rfl G4 hN.size A fs.length c (fs.map irow) rfl (List.length_map _).symm (HF.out.below hBw (Nat.le_refl _)) irow_len (by unfold maxLen; omega) (by omega) ?_
              intro v6 W' G6 hb
              replace hN := hN.trans (hb.mono hN.size)
              have ow := p0.below hN p0.lt
              have hBw := hB4.trans (hN.mono hB4.size)
              refine hK.out _ _ ow ?_
              clear hb hK
              (try simp only [Act.put, List.setIfInBounds_toArray, List.set_cons_zero, List.set_cons_succ])
              refine rg_many (fuel := 4) [6] rfl (by simp) (by kernel_rfl) (by kernel_rfl) ?_
              intro cc hcc
              rcases (show cc = 6 by simpa using hcc) with rfl
              · intro K hK
                simp only [pick1, wpHead]
                rw [if_pos (by rfl)]
                go_simp
                have T8 := (OwnT.new W' #[.int .i64 (lo + (k : Int))] 3).rdI
                have hb := (Below.refl W'.heap.size W').alloc (Nat.le_refl _) (.cells #[.int .i64 (lo + (k : Int))] 3)
                replace hN := hN.trans (hb.mono hN.size)
                generalize hg8 : W'.heap.size = g8 at T8 ⊢
                generalize hWe : World.alloc W' _ = W' at hb hN T8 ⊢
                clear hWe hg8
                have ow := p0.below hN p0.lt
                have hBw := hB4.trans (hN.mono hB4.size)
                replace G6 := G6.below hb (Nat.le_refl _)
                refine hK.out _ _ ow ?_
                clear hb hK
                (try simp only [Act.put, List.setIfInBounds_toArray, List.set_cons_zero, List.set_cons_succ])
                refine rg_many (fuel := 3) [7] rfl (by simp) (by kernel_rfl) (by kernel_rfl) ?_
                intro cc hcc
                rcases (show cc = 7 by simpa using hcc) with rfl
                · intro K hK
                  simp only [pick1]
                  refine step_app (K := K) rfl (.tmp 34) (.tmp 36) 46 rfl w4.heap.size 3 i0 (.int .i64 0) 1 8 (by kernel_rfl) hi0 hi1 hi2 hi3 rfl (by decide) v6 (fs.map irow) rfl G6 hN.size (some ⟨g8, 0, none⟩) 1 1 ([lo + (k : Int)].map irow) rfl rfl T8 irow_len irow_one (by rw [List.length_map]; unfold maxLen; omega) (by rw [List.length_map]; omega) ?_
                  intro v9 W' G9 hgr
                  replace hN := G6.room hN hgr hN.size
                  rw [← List.map_append] at G9
                  obtain ⟨A9, c9, rfl, hr9⟩ := G9.out
                  have hty9 := G9.ty
                  rw [List.length_map]
                  clear G6 G9 hgr
                  have ow := p0.below hN p0.lt
                  have hBw := hB4.trans (hN.mono hB4.size)
                  refine hK.out _ _ ow ?_
                  clear hK
                  (try simp only [Act.put, List.setIfInBounds_toArray, List.set_cons_zero, List.set_cons_succ])
                  refine rg_many (fuel := 2) [8] rfl (by simp) (by kernel_rfl) (by kernel_rfl) ?_
                  intro cc hcc
                  rcases (show cc = 8 by simpa using hcc) with rfl
                  · intro K hK
                    simp only [pick1, wpHead]
                    rw [if_pos (by rfl)]
                    go_simp
                    have hcall := HRec.out (fs ++ [lo + (k : Int)]) A9 c9 W' (HC.out.below hBw (Nat.le_refl _)) (by rw [List.length_append, List.length_singleton]; have := HL1.out; omega) (by rw [List.length_append, List.length_singleton]; have := HL1.out; omega) (by omega) hr9 hty9
                    rw [List.length_append, List.length_singleton] at hcall
                    refine hcall.mono ?_
                    clear hcall
                    rintro e W' ⟨A10, c10, rfl, ⟨ys, hr10, i10⟩, hb⟩
                    replace hN := hN.trans (hb.mono hN.size)
                    go_wp2_with fail
                    have ow := p0.below hN p0.lt
                    have hBw := hB4.trans (hN.mono hB4.size)
                    refine hK.out _ _ ow ?_
                    clear hb hK
                    (try simp only [Act.put, List.setIfInBounds_toArray, List.set_cons_zero, List.set_cons_succ])
                    refine rg_many (fuel := 1) [9] rfl (by simp) (by kernel_rfl) (by kernel_rfl) ?_
                    intro cc hcc
                    rcases (show cc = 9 by simpa using hcc) with rfl
                    · intro K hK
                      simp only [pick1]
                      have hz10 : w.heap.size + 2 ≤ w4.heap.size := p1.lt
                      have GO := g4.below hN (Nat.le_refl _)
                      have IO := i4.below hN (Nat.le_refl _)
                      have hzn := hN.size
                      refine step_app (K := K) rfl (.tmp 30) (.tmp 38) 107 rfl (w.heap.size + 2) 46 j0 (.slice none 0 0) 1 24 (by kernel_rfl) hj0 hj1 hj2 hj3 rfl (by decide) _ (xs.map slrow) rfl GO (by omega) A10 _ c10 (ys.map slrow) rfl (by rw [List.length_map]; exact i10.len.symm) hr10 slrow_len slrow_one (by have := HWJ.out; have := HWF.out; rw [List.length_map, hxl.out]; unfold maxLen; omega) (by have := HWJ.out; have := HWF.out; rw [List.length_map, hxl.out]; omega) ?_
                      intro v11 W' G11 hgr
                      have i11 := (IO.append i10).keptBy hgr GO (by decide)
                      rw [← List.map_append] at G11
                      have hBw := (hB4.trans (hN.mono hB4.size)).grown hgr (by omega) (fun i hi => by have := (GO.2.lt i hi).1; omega)
                      have ow := (p0.below hN p0.lt).keptBy hgr (fun e => by have := (GO.2.lt _ e.symm).1; omega)
                      have ox := (p1.below hN p1.lt).keptBy hgr (fun e => by have := (GO.2.lt _ e.symm).1; omega)
                      clear GO IO hgr hr10 i10 hN
                      refine hK.out _ _ ow ?_
                      clear hK
                      (try simp only [Act.put, List.setIfInBounds_toArray, List.set_cons_zero, List.set_cons_succ])
                      refine rg_many (fuel := 0) [10] rfl (by simp) (by kernel_rfl) (by kernel_rfl) ?_
                      intro cc hcc
                      rcases (show cc = 10 by simpa using hcc) with rfl
                      · intro K hK
                        simp only [pick1, wpHead]
                        rw [if_pos (by rfl)]
                        go_simp
                        refine hK.out _ _ ow ?_
                        clear hK
                        (try simp only [Act.put, List.setIfInBounds_toArray, List.set_cons_zero, List.set_cons_succ])
                        refine rg_done (by kernel_rfl) ?_
                        go_wp2
                        go_roundg (wd - (k + 1))
                        case measure => omega
                        case rel => exact ⟨k + 1, xs ++ ys, by omega, (by go_num), ow, ox, G11, (by rw [HJ.out]; exact i11), hBw⟩
            · intro K hK
              simp only [pick1, wpHead]
              rw [if_pos (by rfl)]
              go_simp
              have T8 := (OwnT.new W' #[.int .i64 (lo + (k : Int))] 3).rdI
              have hb := (Below.refl W'.heap.size W').alloc (Nat.le_refl _) (.cells #[.int .i64 (lo + (k : Int))] 3)
              replace hN := hN.trans (hb.mono hN.size)
              generalize hg8 : W'.heap.size = g8 at T8 ⊢
              generalize hWe : World.alloc W' _ = W' at hb hN T8 ⊢
              clear hWe hg8
              have ow := p0.below hN p0.lt
              have hBw := hB4.trans (hN.mono hB4.size)
              replace G4 := G4.below hb (Nat.le_refl _)
              refine hK.out _ _ ow ?_
              clear hb hK
              (try simp only [Act.put, List.setIfInBounds_toArray, List.set_cons_zero, List.set_cons_succ])
              refine rg_many (fuel := 4) [4] rfl (by simp) (by kernel_rfl) (by kernel_rfl) ?_
              intro cc hcc
              rcases (show cc = 4 by simpa using hcc) with rfl
              · intro K hK
                simp only [pick1]
                refine step_fill (K := K) rfl (.tmp 32) (.tmp 33) 46 rfl w4.heap.size 3 i0 (.int .i64 0) 1 8 (by kernel_rfl) hi0 hi1 hi2 hi3 rfl (by decide) g4x rfl G4 hN.size A fs.length c (fs.map irow) rfl (List.length_map _).symm (HF.out.below hBw (Nat.le_refl _)) irow_len (by unfold maxLen; omega) (by omega) ?_
                intro v6 W' G6 hb
                replace hN := hN.trans (hb.mono hN.size)
                have ow := p0.below hN p0.lt
                have hBw := hB4.trans (hN.mono hB4.size)
                replace T8 := T8.below hb (Nat.le_refl _)
                refine hK.out _ _ ow ?_
                clear hb hK
                (try simp only [Act.put, List.setIfInBounds_toArray, List.set_cons_zero, List.set_cons_succ])
                refine rg_many (fuel := 3) [7] rfl (by simp) (by kernel_rfl) (by kernel_rfl) ?_
                intro cc hcc
                rcases (show cc = 7 by simpa using hcc) with rfl
                · intro K hK
                  simp only [pick1]
                  refine step_app (K := K) rfl (.tmp 34) (.tmp 36) 46 rfl w4.heap.size 3 i0 (.int .i64 0) 1 8 (by kernel_rfl) hi0 hi1 hi2 hi3 rfl (by decide) v6 (fs.map irow) rfl G6 hN.size (some ⟨g8, 0, none⟩) 1 1 ([lo + (k : Int)].map irow) rfl rfl T8 irow_len irow_one (by rw [List.length_map]; unfold maxLen; omega) (by rw [List.length_map]; omega) ?_
                  intro v9 W' G9 hgr
                  replace hN := G6.room hN hgr hN.size
                  rw [← List.map_append] at G9
                  obtain ⟨A9, c9, rfl, hr9⟩ := G9.out
                  have hty9 := G9.ty
                  rw [List.length_map]
                  clear G6 G9 hgr
                  have ow := p0.below hN p0.lt
                  have hBw := hB4.trans (hN.mono hB4.size)
                  refine hK.out _ _ ow ?_
                  clear hK
                  (try simp only [Act.put, List.setIfInBounds_toArray, List.set_cons_zero, List.set_cons_succ])
                  refine rg_many (fuel := 2) [8] rfl (by simp) (by kernel_rfl) (by kernel_rfl) ?_
                  intro cc hcc
                  rcases (show cc = 8 by simpa using hcc) with rfl
                  · intro K hK
                    simp only [pick1, wpHead]
                    rw [if_pos (by rfl)]
                    go_simp
                    have hcall := HRec.out (fs ++ [lo + (k : Int)]) A9 c9 W' (HC.out.below hBw (Nat.le_refl _)) (by rw [List.length_append, List.length_singleton]; have := HL1.out; omega) (by rw [List.length_append, List.length_singleton]; have := HL1.out; omega) (by omega) hr9 hty9
                    rw [List.length_append, List.length_singleton] at hcall
                    refine hcall.mono ?_
                    clear hcall
                    rintro e W' ⟨A10, c10, rfl, ⟨ys, hr10, i10⟩, hb⟩
                    replace hN := hN.trans (hb.mono hN.size)
                    go_wp2_with fail
                    have ow := p0.below hN p0.lt
                    have hBw := hB4.trans (hN.mono hB4.size)
                    refine hK.out _ _ ow ?_
                    clear hb hK
                    (try simp only [Act.put, List.setIfInBounds_toArray, List.set_cons_zero, List.set_cons_succ])
                    refine rg_many (fuel := 1) [9] rfl (by simp) (by kernel_rfl) (by kernel_rfl) ?_
                    intro cc hcc
                    rcases (show cc = 9 by simpa using hcc) with rfl
                    · intro K hK
                      simp only [pick1]
                      have hz10 : w.heap.size + 2 ≤ w4.heap.size := p1.lt
                      have GO := g4.below hN (Nat.le_refl _)
                      have IO := i4.below hN (Nat.le_refl _)
                      have hzn := hN.size
                      refine step_app (K := K) rfl (.tmp 30) (.tmp 38) 107 rfl (w.heap.size + 2) 46 j0 (.slice none 0 0) 1 24 (by kernel_rfl) hj0 hj1 hj2 hj3 rfl (by decide) _ (xs.map slrow) rfl GO (by omega) A10 _ c10 (ys.map slrow) rfl (by rw [List.length_map]; exact i10.len.symm) hr10 slrow_len slrow_one (by have := HWJ.out; have := HWF.out; rw [List.length_map, hxl.out]; unfold maxLen; omega) (by have := HWJ.out; have := HWF.out; rw [List.length_map, hxl.out]; omega) ?_
                      intro v11 W' G11 hgr
                      have i11 := (IO.append i10).keptBy hgr GO (by decide)
                      rw [← List.map_append] at G11
                      have hBw := (hB4.trans (hN.mono hB4.size)).grown hgr (by omega) (fun i hi => by have := (GO.2.lt i hi).1; omega)
                      have ow := (p0.below hN p0.lt).keptBy hgr (fun e => by have := (GO.2.lt _ e.symm).1; omega)
                      have ox := (p1.below hN p1.lt).keptBy hgr (fun e => by have := (GO.2.lt _ e.symm).1; omega)
                      clear GO IO hgr hr10 i10 hN
                      refine hK.out _ _ ow ?_
                      clear hK
                      (try simp only [Act.put, List.setIfInBounds_toArray, List.set_cons_zero, List.set_cons_succ])
                      refine rg_many (fuel := 0) [10] rfl (by simp) (by kernel_rfl) (by kernel_rfl) ?_
                      intro cc hcc
                      rcases (show cc = 10 by simpa using hcc) with rfl
                      · intro K hK
                        simp only [pick1, wpHead]
                        rw [if_pos (by rfl)]
                        go_simp
                        refine hK.out _ _ ow ?_
                        clear hK
                        (try simp only [Act.put, List.setIfInBounds_toArray, List.set_cons_zero, List.set_cons_succ])
                        refine rg_done (by kernel_rfl) ?_
                        go_wp2
                        go_roundg (wd - (k + 1))
                        case measure => omega
                        case rel => exact ⟨k + 1, xs ++ ys, by omega, (by go_num), ow, ox, G11, (by rw [HJ.out]; exact i11), hBw⟩
          · intro K hK
            simp only [pick1, wpHead]
            rw [if_pos (by rfl)]
            go_simp
            have T8 := (OwnT.new w4 #[.int .i64 (lo + (k : Int))] 3).rdI
            have hb := (Below.refl w4.heap.size w4).alloc (Nat.le_refl _) (.cells #[.int .i64 (lo + (k : Int))] 3)
            replace hN := hN.trans (hb.mono hN.size)
            generalize hg8 : w4.heap.size = g8 at T8 ⊢
            generalize hWe : World.alloc w4 _ = W' at hb hN T8 ⊢
            clear hWe hg8
            have ow := p0.below hN p0.lt
            have hBw := hB4.trans (hN.mono hB4.size)
            refine hK.out _ _ ow ?_
            clear hb hK
            (try simp only [Act.put, List.setIfInBounds_toArray, List.set_cons_zero, List.set_cons_succ])
            refine rg_many (fuel := 5) [2] rfl (by simp) (by kernel_rfl) (by kernel_rfl) ?_
            intro cc hcc
            rcases (show cc = 2 by simpa using hcc) with rfl
            · intro K hK
              simp only [pick1]
              refine step_empty (K := K) rfl 46 3 1 w4.heap.size rfl (by kernel_rfl) i0 hi0 hN.size ?_
              intro g4x W' G4 hb
              replace hN := hN.trans (hb.mono hN.size)
              have ow := p0.below hN p0.lt
              have hBw := hB4.trans (hN.mono hB4.size)
              replace T8 := T8.below hb (Nat.le_refl _)
              refine hK.out _ _ ow ?_
              clear hb hK
              (try simp only [Act.put, List.setIfInBounds_toArray, List.set_cons_zero, List.set_cons_succ])
              refine rg_many (fuel := 4) [4] rfl (by simp) (by kernel_rfl) (by kernel_rfl) ?_
              intro cc hcc
              rcases (show cc = 4 by simpa using hcc) with rfl
              · intro K hK
                simp only [pick1]
                refine step_fill (K := K) rfl (.tmp 32) (.tmp 33) 46 rfl w4.heap.size 3 i0 (.int .i64 0) 1 8 (by kernel_rfl) hi0 hi1 hi2 hi3 rfl (by decide) g4x rfl G4 hN.size A fs.length c (fs.map irow) rfl (List.length_map _).symm (HF.out.below hBw (Nat.le_refl _)) irow_len (by unfold maxLen; omega) (by omega) ?_
                intro v6 W' G6 hb
                replace hN := hN.trans (hb.mono hN.size)
                have ow := p0.below hN p0.lt
                have hBw := hB4.trans (hN.mono hB4.size)
                replace T8 := T8.below hb (Nat.le_refl _)
                refine hK.out _ _ ow ?_
                clear hb hK
                (try simp only [Act.put, List.setIfInBounds_toArray, List.set_cons_zero, List.set_cons_succ])
                refine rg_many (fuel := 3) [7] rfl (by simp) (by kernel_rfl) (by kernel_rfl) ?_
                intro cc hcc
                rcases (show cc = 7 by simpa using hcc) with rfl
                · intro K hK
                  simp only [pick1]
                  refine step_app (K := K) rfl (.tmp 34) (.tmp 36) 46 rfl w4.heap.size 3 i0 (.int .i64 0) 1 8 (by kernel_rfl) hi0 hi1 hi2 hi3 rfl (by decide) v6 (fs.map irow) rfl G6 hN.size (some ⟨g8, 0, none⟩) 1 1 ([lo + (k : Int)].map irow) rfl rfl T8 irow_len irow_one (by rw [List.length_map]; unfold maxLen; omega) (by rw [List.length_map]; omega) ?_
                  intro v9 W' G9 hgr
                  replace hN := G6.room hN hgr hN.size
                  rw [← List.map_append] at G9
                  obtain ⟨A9, c9, rfl, hr9⟩ := G9.out
                  have hty9 := G9.ty
                  rw [List.length_map]
                  clear G6 G9 hgr
                  have ow := p0.below hN p0.lt
                  have hBw := hB4.trans (hN.mono hB4.size)
                  refine hK.out _ _ ow ?_
                  clear hK
                  (try simp only [Act.put, List.setIfInBounds_toArray, List.set_cons_zero, List.set_cons_succ])
                  refine rg_many (fuel := 2) [8] rfl (by simp) (by kernel_rfl) (by kernel_rfl) ?_
                  intro cc hcc
                  rcases (show cc = 8 by simpa using hcc) with rfl
                  · intro K hK
                    simp only [pick1, wpHead]
                    rw [if_pos (by rfl)]
                    go_simp
                    have hcall := HRec.out (fs ++ [lo + (k : Int)]) A9 c9 W' (HC.out.below hBw (Nat.le_refl _)) (by rw [List.length_append, List.length_singleton]; have := HL1.out; omega) (by rw [List.length_append, List.length_singleton]; have := HL1.out; omega) (by omega) hr9 hty9
                    rw [List.length_append, List.length_singleton] at hcall
                    refine hcall.mono ?_
                    clear hcall
                    rintro e W' ⟨A10, c10, rfl, ⟨ys, hr10, i10⟩, hb⟩
                    replace hN := hN.trans (hb.mono hN.size)
                    go_wp2_with fail
                    have ow := p0.below hN p0.lt
                    have hBw := hB4.trans (hN.mono hB4.size)
                    refine hK.out _ _ ow ?_
                    clear hb hK
                    (try simp only [Act.put, List.setIfInBounds_toArray, List.set_cons_zero, List.set_cons_succ])
                    refine rg_many (fuel := 1) [9] rfl (by simp) (by kernel_rfl) (by kernel_rfl) ?_
                    intro cc hcc
                    rcases (show cc = 9 by simpa using hcc) with rfl
                    · intro K hK
                      simp only [pick1]
                      have hz10 : w.heap.size + 2 ≤ w4.heap.size := p1.lt
                      have GO := g4.below hN (Nat.le_refl _)
                      have IO := i4.below hN (Nat.le_refl _)
                      have hzn := hN.size
                      refine step_app (K := K) rfl (.tmp 30) (.tmp 38) 107 rfl (w.heap.size + 2) 46 j0 (.slice none 0 0) 1 24 (by kernel_rfl) hj0 hj1 hj2 hj3 rfl (by decide) _ (xs.map slrow) rfl GO (by omega) A10 _ c10 (ys.map slrow) rfl (by rw [List.length_map]; exact i10.len.symm) hr10 slrow_len slrow_one (by have := HWJ.out; have := HWF.out; rw [List.length_map, hxl.out]; unfold maxLen; omega) (by have := HWJ.out; have := HWF.out; rw [List.length_map, hxl.out]; omega) ?_
                      intro v11 W' G11 hgr
                      have i11 := (IO.append i10).keptBy hgr GO (by decide)
                      rw [← List.map_append] at G11
                      have hBw := (hB4.trans (hN.mono hB4.size)).grown hgr (by omega) (fun i hi => by have := (GO.2.lt i hi).1; omega)
                      have ow := (p0.below hN p0.lt).keptBy hgr (fun e => by have := (GO.2.lt _ e.symm).1; omega)
                      have ox := (p1.below hN p1.lt).keptBy hgr (fun e => by have := (GO.2.lt _ e.symm).1; omega)
                      clear GO IO hgr hr10 i10 hN
                      refine hK.out _ _ ow ?_
                      clear hK
                      (try simp only [Act.put, List.setIfInBounds_toArray, List.set_cons_zero, List.set_cons_succ])
                      refine rg_many (fuel := 0) [10] rfl (by simp) (by kernel_rfl) (by kernel_rfl) ?_
                      intro cc hcc
                      rcases (show cc = 10 by simpa using hcc) with rfl
                      · intro K hK
                        simp only [pick1, wpHead]
                        rw [if_pos (by rfl)]
                        go_simp
                        refine hK.out _ _ ow ?_
                        clear hK
                        (try simp only [Act.put, List.setIfInBounds_toArray, List.set_cons_zero, List.set_cons_succ])
                        refine rg_done (by kernel_rfl) ?_
                        go_wp2
                        go_roundg (wd - (k + 1))
                        case measure => omega
                        case rel => exact ⟨k + 1, xs ++ ys, by omega, (by go_num), ow, ox, G11, (by rw [HJ.out]; exact i11), hBw⟩
        · have hkn : k = wd := by omega
          have e : Hid (allP D (n + 1) fs = allJ D n fs k) := by show _ = _; rw [HW.out, hkn]
          obtain ⟨PA', pc', hv', hll⟩ := hg.rdLL hin
          go_wp2
          go_ret
          rw [e.out]
          refine ⟨PA', pc', ?_, hll, hbw⟩
          rw [← hv']; rfl

end Go.Proofs.YtibkgnnpmidgfaaDoor
namespace Go.Proofs.YtibkgnnpmidgfaaDoor
open Go.RowKit

theorem RdLL.elemT {w : World} {A : Option Addr} {ls : List (List Int)} (h : RdLL w A ls) {i : Nat} {l : List Int} (hi : ls[i]? = some l) :
    ∃ b off A' c, A = some ⟨b, off, none⟩ ∧ b < w.heap.size ∧ w.cell? ⟨b, off + i, none⟩ = some (.slice A' l.length c) ∧ RdI w A' l ∧ TyB w A' 3 := by
  obtain ⟨xs, h1, h2⟩ := h
  have hlt := (List.getElem?_eq_some_iff.1 hi).1
  obtain ⟨x, hx⟩ : ∃ x, xs[i]? = some x := ⟨xs[i]'(by rw [h2.len]; exact hlt), by simp⟩
  obtain ⟨b, off, e, hb, hc⟩ := h1.elem (i := i) (r := slrow x) (by rw [List.getElem?_map, hx]; rfl)
  obtain ⟨hn, hr, ht⟩ := h2.at_ i x l hx hi
  refine ⟨b, off, x.1, x.2.2, e, hb, ?_, hr, ht⟩
  have := hc 0 (slv x) rfl
  rw [Nat.mul_one, Nat.add_zero] at this
  rw [this, ← hn]; rfl
/-- What is known: all truths, or nothing. -/
def knoL (cw : Int) (B D : List Pt) (R : List Rep) (v : Bool) : List (List Int) := if opE cw B D R v = 0 then truL cw B D R else []
theorem tru_filter {cw : Int} {B D : List Pt} {R : List Rep} (hV : Val cw B D R) : (allP D (D.length + 1) []).filter (truB cw B D R) = truL cw B D R := by
  unfold truL
  refine List.filter_congr fun l hl => ?_
  have hO := mem_all.1 hl
  unfold truB
  rw [decide_eq_true hO.len, inB_opn hO, wrongs_tot hV]; rfl
theorem take_filter {α : Type} {p : α → Bool} {ls : List α} {k : Nat} {l : α} (h : ls[k]? = some l) : (ls.take (k + 1)).filter p = (ls.take k).filter p ++ (if p l = true then [l] else []) := by
  rw [take_snoc h, List.filter_append, filter_one]
theorem tru_len {cw : Int} {B D : List Pt} {R : List Rep} {l : List Int} (h : Tru cw B D R l) : l.length = D.length := h.1.len

set_option maxRecDepth 100000 in
set_option maxHeartbeats 8000000 in
theorem known78 (A0 A1 A2 : Option Addr) (n0 n1 n2 c0 c1 c2 : Nat) (cw : Int) (v : Bool) (B D : List Pt) (R : List Rep) (w : World) (hC : RdC w A0 A1 A2 n0 n1 n2 B D R) :
    Calls Tryd.prog 78 #[.agg #[.slice A0 n0 c0, .slice A1 n1 c1, .slice A2 n2 c2, .int .i64 cw], .bool v] w fun e w' => ∃ (A : Option Addr) (c : Nat), e = .returned (.tuple #[.slice A (knoL cw B D R v).length c, .int .i64 (opE cw B D R v)]) ∧ RdLL w' A (knoL cw B D R v) ∧ Below w.heap.size w w' := by
  obtain ⟨j0, hj0, hj1, hj2, hj3⟩ := info_parts info46
  have HC := Lib.hid hC
  clear hC
  have o0 : Own (w.alloc (.cells #[.slice A0 n0 c0, .slice A1 n1 c1, .slice A2 n2 c2, .int .i64 cw] 26)) w.heap.size [.slice A0 n0 c0, .slice A1 n1 c1, .slice A2 n2 c2, .int .i64 cw] := Own.new' _ _ rfl rfl
  have oB : Below w.heap.size w (w.alloc (.cells #[.slice A0 n0 c0, .slice A1 n1 c1, .slice A2 n2 c2, .int .i64 cw] 26)) := by (repeat' (first | (with_reducible exact Below.refl _ _) | (with_reducible assumption) | (with_reducible refine Below.drew ?_) | (with_reducible refine below_drewN ?_ _) | (with_reducible refine Below.setCell ?_ ?_ _) | (with_reducible refine Below.alloc ?_ ?_ _) | (refine Below.trans ?_ (Below.mono (by with_reducible assumption) ?_)) | omega | (exact Below.size (by with_reducible assumption)) | (simp; done) | (simp; omega)))
  go_enter Tryd.func78, Tryd.ntmps78
  go_wp2_with fail
  refine (check14 A0 A1 A2 n0 n1 n2 c0 c1 c2 cw B D R _ (HC.out.below oB (Nat.le_refl _))).mono ?_
  rcases askE_cases cw B D R v with ⟨hc, ha⟩ | ⟨hc, hv, ha⟩ | ⟨hc, hv, ha⟩
  · have HN : Hid (knoL cw B D R v = [] ∧ opE cw B D R v = 100) := by
      have h1 : opE cw B D R v = 100 := by unfold opE; rw [if_neg (by omega)]; exact ha
      exact ⟨by unfold knoL; rw [if_neg (by omega)], h1⟩
    rw [hc]
    clear hc ha
    rintro e w1 ⟨rfl, hb1⟩
    have hB1 : Below w.heap.size w w1 := by (repeat' (first | (with_reducible exact Below.refl _ _) | (with_reducible assumption) | (with_reducible refine Below.drew ?_) | (with_reducible refine below_drewN ?_ _) | (with_reducible refine Below.setCell ?_ ?_ _) | (with_reducible refine Below.alloc ?_ ?_ _) | (refine Below.trans ?_ (Below.mono (by with_reducible assumption) ?_)) | omega | (exact Below.size (by with_reducible assumption)) | (simp; done) | (simp; omega)))
    go_wp2
    go_ret2
    exact ⟨none, 0, by rw [HN.out.1, HN.out.2]; rfl, by rw [HN.out.1]; exact ⟨[], Rd.nil _ _ _, InL.nil _⟩, hB1⟩
  · have HN : Hid (knoL cw B D R v = [] ∧ opE cw B D R v = 1) := by
      have h1 : opE cw B D R v = 1 := by unfold opE; rw [if_neg (by omega)]; exact ha
      exact ⟨by unfold knoL; rw [if_neg (by omega)], h1⟩
    rw [hc]
    subst hv
    clear hc ha
    rintro e w1 ⟨rfl, hb1⟩
    have hB1 : Below w.heap.size w w1 := by (repeat' (first | (with_reducible exact Below.refl _ _) | (with_reducible assumption) | (with_reducible refine Below.drew ?_) | (with_reducible refine below_drewN ?_ _) | (with_reducible refine Below.setCell ?_ ?_ _) | (with_reducible refine Below.alloc ?_ ?_ _) | (refine Below.trans ?_ (Below.mono (by with_reducible assumption) ?_)) | omega | (exact Below.size (by with_reducible assumption)) | (simp; done) | (simp; omega)))
    go_wp2
    go_ret2
    exact ⟨none, 0, by rw [HN.out.1, HN.out.2]; rfl, by rw [HN.out.1]; exact ⟨[], Rd.nil _ _ _, InL.nil _⟩, hB1⟩
  · have hV := Lib.hid (val_of (chk_ok hc))
    subst hv
    have HOE := Lib.hid (opE_iff hc)
    have HTN := Lib.hid (tru_nil hV.out)
    have HTF := Lib.hid (tru_filter hV.out)
    rw [hc]
    clear hc ha
    rintro e w1 ⟨rfl, hb1⟩
    have q0 := o0.below hb1 o0.lt
    have hB1 : Below w.heap.size w w1 := by (repeat' (first | (with_reducible exact Below.refl _ _) | (with_reducible assumption) | (with_reducible refine Below.drew ?_) | (with_reducible refine below_drewN ?_ _) | (with_reducible refine Below.setCell ?_ ?_ _) | (with_reducible refine Below.alloc ?_ ?_ _) | (refine Below.trans ?_ (Below.mono (by with_reducible assumption) ?_)) | omega | (exact Below.size (by with_reducible assumption)) | (simp; done) | (simp; omega)))
    clear o0 oB hb1
    obtain ⟨l0, k0, f0⟩ := q0
    have q0 := Own.mk l0 k0 f0
    go_wp2_with fail
    refine (all77 A0 A1 A2 n0 n1 n2 c0 c1 c2 cw B D R hV (D.length + 1) [] none 0 _ (HC.out.below hB1 (Nat.le_refl _)) (by simp) (by simp) (by have := hV.out.d; omega) (RdI.nil _ _) (fun a ha => by cases ha)).mono ?_
    have hlen : (allP D (D.length + 1) []).length ≤ 777600000 := Nat.le_trans (all_pow (wid_le hV.out)) (Nat.le_trans (Nat.pow_le_pow_right (by decide) (show D.length + 1 ≤ 5 by have := hV.out.d; omega)) (by decide))
    obtain ⟨ls, hls⟩ : ∃ x, allP D (D.length + 1) [] = x := ⟨_, rfl⟩
    have HMEM : Hid (∀ l ∈ ls, Opn D l) := fun l hl => mem_all.1 (by rw [hls]; exact hl)
    rw [hls] at hlen HTF ⊢
    clear hls
    rintro e w2 ⟨A2', c2', rfl, hll, hb2⟩
    have p0 := q0.below hb2 q0.lt
    have hB2 : Below w.heap.size w w2 := by (repeat' (first | (with_reducible exact Below.refl _ _) | (with_reducible assumption) | (with_reducible refine Below.drew ?_) | (with_reducible refine below_drewN ?_ _) | (with_reducible refine Below.setCell ?_ ?_ _) | (with_reducible refine Below.alloc ?_ ?_ _) | (refine Below.trans ?_ (Below.mono (by with_reducible assumption) ?_)) | omega | (exact Below.size (by with_reducible assumption)) | (simp; done) | (simp; omega)))
    have HLL := Lib.hid hll
    have hw2 : w.heap.size < w2.heap.size := p0.lt
    clear hll hb2 q0 l0 k0 f0 hB1
    obtain ⟨l0, k0, f0⟩ := p0
    have p0 := Own.mk l0 k0 f0
    go_wp2
    go_loopg [7, 9] ls.length (fun K v y wr => ∃ (k : Nat) (xs : List Sl), K + k = ls.length ∧ y = .int .i64 k ∧ Own wr w.heap.size [.slice A0 n0 c0, .slice A1 n1 c1, .slice A2 n2 c2, .int .i64 cw] ∧ Gro wr w2.heap.size 46 1 v (xs.map slrow) ∧ InL wr xs ((ls.take k).filter (truB cw B D R)) ∧ Below w.heap.size w wr ∧ Below w2.heap.size w2 wr)
    case atStart => exact ⟨0, [], by omega, rfl, p0, Gro.nil _ _ _ _, (by simpa using InL.nil _), hB2, Below.refl _ _⟩
    case round =>
      clear p0 l0 k0 f0 hB2
      obtain ⟨wo, rfl⟩ : ∃ wo : World, wo = wr := ⟨_, rfl⟩
      obtain ⟨k, xs, hk, rfl, q0, hg, hin, hbw, hbv⟩ := hrel
      obtain ⟨PA, pc, rfl, hrd⟩ := hg.out
      have hxl := Lib.hid hin.len
      rw [List.length_map]
      rw [List.length_map] at hg
      have hxk : xs.length ≤ k := by
        rw [hxl.out]
        exact Nat.le_trans (List.length_filter_le _ _) (by rw [List.length_take]; omega)
      obtain ⟨l0, k0, f0⟩ := q0
      have q0 := Own.mk l0 k0 f0
      have hzi := hbv.size
      by_cases hkn : k < ls.length
      · obtain ⟨l, hl⟩ : ∃ l, Hid (ls[k]? = some l) := ⟨ls[k]'hkn, by simp [Hid]⟩
        have hO := HMEM.out l (List.mem_of_getElem? hl.out)
        have hol := hO.len
        have hl4 : l.length ≤ 4 := by have := hV.out.d; omega
        obtain ⟨b, off, A', c', rfl, hbl, hcell, hrl, hty⟩ := (HLL.out.below hbv (Nat.le_refl _)).elemT hl.out
        have HTF2 := Lib.hid (take_filter (p := truB cw B D R) hl.out)
        have HRL := Lib.hid hrl
        have HTY := Lib.hid hty
        have HXL : ((xs.map slrow).length : Nat) ≤ 777600000 := by rw [List.length_map]; omega
        have hx0 := Aft.cell q0
        have hx1 := fun s : Aft wo => (Aft.old s hbl _).trans hcell
        have HR := Lib.hid (fun s' : Aft wo => isTruth48 A0 A1 A2 n0 n1 n2 c0 c1 c2 cw A' c' l B D R s'.w ((HC.out.below hbw (Nat.le_refl _)).below s'.h (Nat.le_refl _)) hV (hrl.below s'.h (Nat.le_refl _)) (by omega))
        have HG := Lib.hid hg
        have HIN := Lib.hid hin
        clear hrl hty hrd hO hol hg hin
        cases hq : truB cw B D R l
        · rw [hq] at HR HTF2
          clear hq
          go_wp2
          refine wp_region_aft (by kernel_rfl) (by kernel_rfl) ?_; (repeat (go_big_quiet_step ((go_at_call 48; exact aft_of (HR.out _))))); refine wpQuiet_nil ?_; rintro w11 ⟨⟨_, hb11⟩, rfl⟩
          have r0 := q0.below hb11 q0.lt
          have hB11 : Below w.heap.size w w11 := by (repeat' (first | (with_reducible exact Below.refl _ _) | (with_reducible assumption) | (with_reducible refine Below.drew ?_) | (with_reducible refine below_drewN ?_ _) | (with_reducible refine Below.setCell ?_ ?_ _) | (with_reducible refine Below.alloc ?_ ?_ _) | (refine Below.trans ?_ (Below.mono (by with_reducible assumption) ?_)) | omega | (exact Below.size (by with_reducible assumption)) | (simp; done) | (simp; omega)))
          have hV11 := hbv.trans (hb11.mono hzi)
          have g11 := HG.out.below hb11 (Nat.le_refl _)
          have i11 := HIN.out.below hb11 (Nat.le_refl _)
          clear hx0 hx1
          go_wp2
          go_roundg (ls.length - (k + 1))
          case measure => omega
          case rel => exact ⟨k + 1, xs, by omega, by go_num, r0, g11, (by rw [HTF2.out, if_neg (by simp), List.append_nil]; exact i11), hB11, hV11⟩
        · rw [hq] at HR HTF2
          clear hq
          go_wp2
          refine wp_region_aft (by kernel_rfl) (by kernel_rfl) ?_; (repeat (go_big_quiet_step ((go_at_call 48; exact aft_of (HR.out _))))); refine wpQuiet_nil ?_; rintro w11 ⟨⟨_, hb11⟩, rfl⟩
          have r0 := q0.below hb11 q0.lt
          have hB11 : Below w.heap.size w w11 := by (repeat' (first | (with_reducible exact Below.refl _ _) | (with_reducible assumption) | (with_reducible refine Below.drew ?_) | (with_reducible refine below_drewN ?_ _) | (with_reducible refine Below.setCell ?_ ?_ _) | (with_reducible refine Below.alloc ?_ ?_ _) | (refine Below.trans ?_ (Below.mono (by with_reducible assumption) ?_)) | omega | (exact Below.size (by with_reducible assumption)) | (simp; done) | (simp; omega)))
          have hV11 := hbv.trans (hb11.mono hzi)
          have g11 := HG.out.below hb11 (Nat.le_refl _)
          have i11 := HIN.out.below hb11 (Nat.le_refl _)
          have hcell' := ((bcell hb11).1 b (off + k) hbl).trans hcell
          have hr11 := HRL.out.below hb11 (Nat.le_refl _)
          have ht11 := HTY.out.below hb11 (Nat.le_refl _)
          have hz11 : w2.heap.size ≤ w11.heap.size := hV11.size
          have HI := Lib.hid (i11.append (InL.one (c := c') rfl hr11 ht11))
          clear hx0 hx1 hb11 hcell hr11 ht11 i11 q0 l0 k0 f0 hbw hbv
          go_wp2_with (at_builtin; go_must (refine wpList_append_own _ rfl _ _ 107 rfl w2.heap.size 46 j0 (.slice none 0 0) 1 24 Tryd.underlying107 hj0 hj1 hj2 hj3 rfl (by decide) _ _ _ rfl (g11.2.alloc _) ⟨w11.heap.size, 0, none⟩ 1 1 [.slice A' l.length c'] rfl rfl (cell_one_new _ _ _) (by intro u hu; simp at hu; subst hu; rfl) (by unfold maxLen; omega) (by omega) (by simp; omega) ?_; intro v' w12 hown' hgrow hnil; have hbA : Below w2.heap.size w11 w12 := ((Below.refl _ w11).alloc hz11 _).grown hgrow (by simp; omega) (fun i hi => (g11.2.lt i hi).1); have g12 : Gro w12 w2.heap.size 46 1 v' (xs.map slrow ++ [slrow (A', l.length, c')]) := Gro.grown g11 rfl hown'; have i12 := (HI.out.below ((Below.refl w11.heap.size w11).alloc (Nat.le_refl _) (.cells #[.slice A' l.length c'] 46)) (Nat.le_refl _)).keptBy hgrow (g11.alloc _) (by decide); clear hown' hgrow hnil))
          go_roundg (ls.length - (k + 1))
          case measure => omega
          case rel => exact ⟨k + 1, xs ++ [(A', l.length, c')], by omega, by go_num, r0.below hbA hw2, (by rw [List.map_append]; exact g12), (by rw [HTF2.out]; exact i12), hB11.trans (hbA.mono (by omega)), hV11.trans hbA⟩
      · have hkk : ls.length = k := by omega
        have HT : Hid ((ls.take k).filter (truB cw B D R) = truL cw B D R) := by show _ = _; rw [List.take_of_length_le (by omega)]; exact HTF.out
        rw [HT.out] at hin hxl
        obtain ⟨PA', pc', hv', hll⟩ := hg.rdLL hin
        have HLX := Lib.hid hll
        clear hll hin hg hrd
        by_cases hz : xs.length = 0
        · have hnil : truL cw B D R = [] := List.eq_nil_of_length_eq_zero (by rw [← hxl.out]; exact hz)
          have HN : Hid (knoL cw B D R true = [] ∧ opE cw B D R true = 3) := by
            have h1 : opE cw B D R true = 3 := by rw [HOE.out, if_pos (HTN.out.1 hnil)]
            exact ⟨by unfold knoL; rw [if_neg (show ¬ opE cw B D R true = 0 by rw [h1]; decide)], h1⟩
          have hzb : ((xs.length : Int) == 0) = true := by rw [hz]; rfl
          clear hz hnil hv'
          go_wp2
          go_ret2
          exact ⟨none, 0, by rw [HN.out.1, HN.out.2]; rfl, by rw [HN.out.1]; exact ⟨[], Rd.nil _ _ _, InL.nil _⟩, hbw⟩
        · have hnn : truL cw B D R ≠ [] := fun h => hz (by rw [hxl.out, h]; rfl)
          have HN : Hid (knoL cw B D R true = truL cw B D R ∧ opE cw B D R true = 0) := by
            have h1 : opE cw B D R true = 0 := by rw [HOE.out, if_neg (fun h => hnn (HTN.out.2 h))]
            exact ⟨by unfold knoL; rw [if_pos h1], h1⟩
          have hzb : ((xs.length : Int) == 0) = false := by rw [beq_eq_false_iff_ne]; omega
          have HVV := Lib.hid hv'
          clear hz hnn hv'
          go_wp2
          go_ret2
          refine ⟨PA', pc', ?_, by rw [HN.out.1]; exact HLX.out, hbw⟩
          rw [HN.out.1, HN.out.2, ← HVV.out]; rfl

end Go.Proofs.YtibkgnnpmidgfaaDoor
namespace Go.Proofs.YtibkgnnpmidgfaaDoor
open Go.RowKit

theorem kno_many {cw : Int} {B D : List Pt} {R : List Rep} : ((knoL cw B D R true).length : Int) = manyN cw B D R := by
  unfold knoL manyN
  by_cases h : opE cw B D R true = 0
  · rw [if_pos h, if_pos h, tru_many (val_of (opE_true h).2)]
  · rw [if_neg h, if_neg h]; rfl

set_option maxRecDepth 100000 in
set_option maxHeartbeats 8000000 in
theorem many37 (A0 A1 A2 : Option Addr) (n0 n1 n2 c0 c1 c2 : Nat) (cw : Int) (B D : List Pt) (R : List Rep) (w : World) (hC : RdC w A0 A1 A2 n0 n1 n2 B D R) :
    Calls Tryd.prog 37 #[.agg #[.slice A0 n0 c0, .slice A1 n1 c1, .slice A2 n2 c2, .int .i64 cw]] w fun e w' => e = .returned (.tuple #[.int .i64 (manyN cw B D R), .int .i64 (opE cw B D R true)]) ∧ Below w.heap.size w w' := by
  have HC := Lib.hid hC
  clear hC
  have oB : Below w.heap.size w (w.alloc (.cells #[.slice A0 n0 c0, .slice A1 n1 c1, .slice A2 n2 c2, .int .i64 cw] 26)) := by (repeat' (first | (with_reducible exact Below.refl _ _) | (with_reducible assumption) | (with_reducible refine Below.drew ?_) | (with_reducible refine below_drewN ?_ _) | (with_reducible refine Below.setCell ?_ ?_ _) | (with_reducible refine Below.alloc ?_ ?_ _) | (refine Below.trans ?_ (Below.mono (by with_reducible assumption) ?_)) | omega | (exact Below.size (by with_reducible assumption)) | (simp; done) | (simp; omega)))
  have HK := Lib.hid (kno_many (cw := cw) (B := B) (D := D) (R := R))
  obtain ⟨E, hE⟩ : ∃ x, opE cw B D R true = x := ⟨_, rfl⟩
  obtain ⟨M, hM⟩ : ∃ x, manyN cw B D R = x := ⟨_, rfl⟩
  have HE := Lib.hid hE
  rw [hM] at HK
  have HM := Lib.hid hM
  clear hE hM
  go_enter Tryd.func37, Tryd.ntmps37
  go_wp2_with fail
  refine (known78 A0 A1 A2 n0 n1 n2 c0 c1 c2 cw true B D R _ (HC.out.below oB (Nat.le_refl _))).mono ?_
  rw [HE.out]
  rintro e w1 ⟨A1', c1', rfl, _, hb1⟩
  have hB1 : Below w.heap.size w w1 := by (repeat' (first | (with_reducible exact Below.refl _ _) | (with_reducible assumption) | (with_reducible refine Below.drew ?_) | (with_reducible refine below_drewN ?_ _) | (with_reducible refine Below.setCell ?_ ?_ _) | (with_reducible refine Below.alloc ?_ ?_ _) | (refine Below.trans ?_ (Below.mono (by with_reducible assumption) ?_)) | omega | (exact Below.size (by with_reducible assumption)) | (simp; done) | (simp; omega)))
  obtain ⟨ks, hks⟩ : ∃ x, knoL cw B D R true = x := ⟨_, rfl⟩
  rw [hks] at HK ⊢
  clear hks hb1
  go_wp2
  go_ret2
  exact ⟨by rw [HE.out, HM.out, ← HK.out]; rfl, hB1⟩

/-- The least number so far. -/
structure MinT (B : List Pt) (R : List Rep) (n : Nat) (ls : List (List Int)) (m : Nat) : Prop where
  le : m ≤ R.length
  least : ∀ l ∈ ls, m ≤ wrongsL B l R
  had : m = R.length ∨ ∃ l ∈ ls, m = wrongsL B l R
theorem minT_end {cw : Int} {B D : List Pt} {R : List Rep} (hV : Val cw B D R) {m n : Nat} (h : MinT B R n (allP D (D.length + 1) []) m) : m = fewV B D R := by
  obtain ⟨l, h1, h2⟩ := few_had hV
  have h3 := h.least l (mem_all.2 h1)
  rw [wrongs_tot hV, h2] at h3
  rcases h.had with h4 | ⟨l', h5, h6⟩
  · have := few_le (B := B) (D := D) (R := R) (spans_of hV)
    omega
  · have h7 := few_least (B := B) (R := R) (mem_all.1 h5)
    rw [wrongs_tot hV] at h6
    omega

set_option maxRecDepth 100000 in
set_option maxHeartbeats 8000000 in
theorem fewest36 (A0 A1 A2 : Option Addr) (n0 n1 n2 c0 c1 c2 : Nat) (cw : Int) (B D : List Pt) (R : List Rep) (w : World) (hC : RdC w A0 A1 A2 n0 n1 n2 B D R) :
    Calls Tryd.prog 36 #[.agg #[.slice A0 n0 c0, .slice A1 n1 c1, .slice A2 n2 c2, .int .i64 cw]] w fun e w' => e = .returned (.tuple #[.int .i64 (fewN cw B D R), .int .i64 (fewE cw B D R)]) ∧ Below w.heap.size w w' := by
  have HC := Lib.hid hC
  have HL2 := Lib.hid hC.h2
  clear hC
  have o0 : Own (w.alloc (.cells #[.slice A0 n0 c0, .slice A1 n1 c1, .slice A2 n2 c2, .int .i64 cw] 26)) w.heap.size [.slice A0 n0 c0, .slice A1 n1 c1, .slice A2 n2 c2, .int .i64 cw] := Own.new' _ _ rfl rfl
  have oB : Below w.heap.size w (w.alloc (.cells #[.slice A0 n0 c0, .slice A1 n1 c1, .slice A2 n2 c2, .int .i64 cw] 26)) := by (repeat' (first | (with_reducible exact Below.refl _ _) | (with_reducible assumption) | (with_reducible refine Below.drew ?_) | (with_reducible refine below_drewN ?_ _) | (with_reducible refine Below.setCell ?_ ?_ _) | (with_reducible refine Below.alloc ?_ ?_ _) | (refine Below.trans ?_ (Below.mono (by with_reducible assumption) ?_)) | omega | (exact Below.size (by with_reducible assumption)) | (simp; done) | (simp; omega)))
  go_enter Tryd.func36, Tryd.ntmps36
  go_wp2_with fail
  refine (check14 A0 A1 A2 n0 n1 n2 c0 c1 c2 cw B D R _ (HC.out.below oB (Nat.le_refl _))).mono ?_
  rcases chkE_cases cw B D R with hc | hc
  · have hV := Lib.hid (val_of (chk_ok hc))
    have HN : Hid (fewN cw B D R = fewV B D R ∧ fewE cw B D R = 0) := by
      show _ ∧ _
      unfold fewN fewE
      rw [if_pos hc]
      exact ⟨rfl, hc⟩
    have hn2 : n2 ≤ 8 := by have := hV.out.r; have := HL2.out; omega
    rw [hc]
    clear hc
    rintro e w1 ⟨rfl, hb1⟩
    have q0 := o0.below hb1 o0.lt
    have hB1 : Below w.heap.size w w1 := by (repeat' (first | (with_reducible exact Below.refl _ _) | (with_reducible assumption) | (with_reducible refine Below.drew ?_) | (with_reducible refine below_drewN ?_ _) | (with_reducible refine Below.setCell ?_ ?_ _) | (with_reducible refine Below.alloc ?_ ?_ _) | (refine Below.trans ?_ (Below.mono (by with_reducible assumption) ?_)) | omega | (exact Below.size (by with_reducible assumption)) | (simp; done) | (simp; omega)))
    clear o0 oB hb1
    obtain ⟨l0, k0, f0⟩ := q0
    have q0 := Own.mk l0 k0 f0
    go_wp2_with fail
    refine (all77 A0 A1 A2 n0 n1 n2 c0 c1 c2 cw B D R hV (D.length + 1) [] none 0 _ (HC.out.below hB1 (Nat.le_refl _)) (by simp) (by simp) (by have := hV.out.d; omega) (RdI.nil _ _) (fun a ha => by cases ha)).mono ?_
    have hlen : (allP D (D.length + 1) []).length ≤ 777600000 := Nat.le_trans (all_pow (wid_le hV.out)) (Nat.le_trans (Nat.pow_le_pow_right (by decide) (show D.length + 1 ≤ 5 by have := hV.out.d; omega)) (by decide))
    have HEND : Hid (∀ m, MinT B R 0 (allP D (D.length + 1) []) m → m = fewV B D R) := fun m h => minT_end hV.out h
    obtain ⟨ls, hls⟩ : ∃ x, allP D (D.length + 1) [] = x := ⟨_, rfl⟩
    have HMEM : Hid (∀ l ∈ ls, Opn D l) := fun l hl => mem_all.1 (by rw [hls]; exact hl)
    rw [hls] at hlen HEND ⊢
    clear hls
    rintro e w2 ⟨A2', c2', rfl, hll, hb2⟩
    have p0 := q0.below hb2 q0.lt
    have hB2 : Below w.heap.size w w2 := by (repeat' (first | (with_reducible exact Below.refl _ _) | (with_reducible assumption) | (with_reducible refine Below.drew ?_) | (with_reducible refine below_drewN ?_ _) | (with_reducible refine Below.setCell ?_ ?_ _) | (with_reducible refine Below.alloc ?_ ?_ _) | (refine Below.trans ?_ (Below.mono (by with_reducible assumption) ?_)) | omega | (exact Below.size (by with_reducible assumption)) | (simp; done) | (simp; omega)))
    have HLL := Lib.hid hll
    clear hll hb2 q0 l0 k0 f0 hB1
    obtain ⟨l0, k0, f0⟩ := p0
    have p0 := Own.mk l0 k0 f0
    go_wp2
    go_loopg [5, 7] ls.length (fun K x y wr => ∃ (k m : Nat), K + k = ls.length ∧ y = .int .i64 k ∧ x = .int .i64 m ∧ m ≤ 8 ∧ Hid (MinT B R 0 (ls.take k) m) ∧ Own wr w.heap.size [.slice A0 n0 c0, .slice A1 n1 c1, .slice A2 n2 c2, .int .i64 cw] ∧ Below w.heap.size w wr ∧ Below w2.heap.size w2 wr)
    case atStart => exact ⟨0, n2, by omega, rfl, rfl, hn2, ⟨by have := HL2.out; omega, (fun l h => by simp at h), Or.inl HL2.out⟩, p0, hB2, Below.refl _ _⟩
    case round =>
      clear p0 l0 k0 f0 hB2
      obtain ⟨wo, rfl⟩ : ∃ wo : World, wo = wr := ⟨_, rfl⟩
      obtain ⟨k, m, hk, rfl, rfl, hm8, hmin, q0, hbw, hbv⟩ := hrel
      obtain ⟨l0, k0, f0⟩ := q0
      have q0 := Own.mk l0 k0 f0
      by_cases hkn : k < ls.length
      · obtain ⟨l, hl⟩ : ∃ l, Hid (ls[k]? = some l) := ⟨ls[k]'hkn, by simp [Hid]⟩
        have HO := Lib.hid (HMEM.out l (List.mem_of_getElem? hl.out))
        obtain ⟨b, off, A', c', rfl, hbl, hcell, hrl⟩ := (HLL.out.below hbv (Nat.le_refl _)).elem hl.out
        have HWR := wrongs49 A0 A1 A2 n0 n1 n2 c0 c1 c2 cw A' c' l B D R wo.drew (HC.out.below hbw.drew (Nat.le_refl _)) hV (hrl.below (Below.refl wo.heap.size wo).drew (Nat.le_refl _)) HO
        have hWle := wrongsL_le B l R
        obtain ⟨W, hW⟩ : ∃ x, wrongsL B l R = x := ⟨_, rfl⟩
        rw [hW] at HWR hWle
        have HWR := Lib.hid HWR
        have HMM : Hid (MinT B R 0 (ls.take (k + 1)) (min m W)) := by
          obtain ⟨h1, h2, h3⟩ := hmin.out
          show MinT _ _ _ _ _
          rw [take_snoc hl.out]
          refine ⟨by omega, fun x hx => ?_, ?_⟩
          · rcases List.mem_append.1 hx with h | h
            · have := h2 x h; omega
            · rw [List.mem_singleton.1 h, hW]; omega
          · by_cases e : m ≤ W
            · rw [Nat.min_eq_left e]
              rcases h3 with h3 | ⟨x, hx, h3⟩
              · exact Or.inl h3
              · exact Or.inr ⟨x, List.mem_append_left _ hx, h3⟩
            · rw [Nat.min_eq_right (by omega)]
              exact Or.inr ⟨l, by simp, hW.symm⟩
        clear hW hrl
        have hcd : wo.drew.cell? ⟨b, off + k, none⟩ = some (.slice A' l.length c') := hcell
        go_wp2
        refine rg_start (fun w' => Own w' w.heap.size [.slice A0 n0 c0, .slice A1 n1 c1, .slice A2 n2 c2, .int .i64 cw] ∧ w'.cell? ⟨b, off + k, none⟩ = some (.slice A' l.length c')) 9 (by kernel_rfl) rfl ?_
        refine rg_take (fuel := 3) [0, 1, 2, 3, 4, 5] (by kernel_rfl) (by intro _ _ d _ _ h; cases d <;> exact h) rfl (by kernel_rfl) (by kernel_rfl) ⟨q0.drew, hcd⟩ ?_
        simp only [pickL, pick1, List.cons_append, List.nil_append]
        iterate 6 (refine wpTake_cons (v := ?_) (Or.inl ⟨by rfl, ?_⟩) ?_; rotate_left; (intro w' hSw; have y0 : w'.cell? ⟨w.heap.size, 0, none⟩ = some (.slice A0 n0 c0) := hSw.1.c 0; have y1 : w'.cell? ⟨w.heap.size, 1, none⟩ = some (.slice A1 n1 c1) := hSw.1.c 1; have y2 : w'.cell? ⟨w.heap.size, 2, none⟩ = some (.slice A2 n2 c2) := hSw.1.c 2; have y3 : w'.cell? ⟨w.heap.size, 3, none⟩ = some (.int .i64 cw) := hSw.1.c 3; have z1 := hSw.2; clear hSw; go_simp; (try with_reducible rfl)); (try simp only [Act.put, List.setIfInBounds_toArray, List.set_cons_zero, List.set_cons_succ]))
        refine wpTake_nil ?_
        have r0 := q0.drew
        have hBw := hbw.drew
        have hBv := hbv.drew
        clear q0 l0 k0 f0 hbw hbv hcell
        refine rg_one (fuel := 2) 6 rfl (by kernel_rfl) (by kernel_rfl) ?_
        simp only [pick1, wpHead]
        intro K hK
        rw [if_pos (by rfl)]
        go_simp
        refine HWR.out.mono ?_
        rintro e w7 ⟨rfl, hb7⟩
        have hcw := ((bcell hb7).1 b (off + k) hbl).trans hcd
        replace r0 := r0.below hb7 r0.lt
        replace hBw := hBw.trans (hb7.mono hBw.size)
        replace hBv := hBv.trans (hb7.mono hBv.size)
        clear hb7 hcd
        go_wp2_with fail
        refine hK.out _ _ ⟨r0, hcw⟩ ?_
        clear hK
        (try simp only [Act.put, List.setIfInBounds_toArray, List.set_cons_zero, List.set_cons_succ])
        by_cases hmw : m ≤ W
        · rw [Nat.min_eq_left hmw] at HMM
          refine rg_one (fuel := 1) 7 rfl (by kernel_rfl) (by kernel_rfl) ?_
          simp only [pick1, wpHead]
          intro K hK
          rw [if_pos (by rfl)]
          go_simp
          refine hK.out _ _ ⟨r0, hcw⟩ ?_
          clear hK
          (try simp only [Act.put, List.setIfInBounds_toArray, List.set_cons_zero, List.set_cons_succ])
          refine rg_one (fuel := 0) 8 rfl (by kernel_rfl) (by kernel_rfl) ?_
          simp only [pick1, wpHead]
          intro K hK
          rw [if_pos (by rfl)]
          go_simp
          refine hK.out _ _ ⟨r0, hcw⟩ ?_
          clear hK
          (try simp only [Act.put, List.setIfInBounds_toArray, List.set_cons_zero, List.set_cons_succ])
          refine rg_done (by kernel_rfl) ?_
          go_wp2
          go_roundg (ls.length - (k + 1))
          case measure => omega
          case rel => exact ⟨k + 1, m, by omega, by go_num, (by congr 1; omega), hm8, HMM, r0, hBw, hBv⟩
        · rw [Nat.min_eq_right (by omega)] at HMM
          refine rg_one (fuel := 1) 7 rfl (by kernel_rfl) (by kernel_rfl) ?_
          simp only [pick1, wpHead]
          intro K hK
          rw [if_pos (by rfl)]
          go_simp
          refine hK.out _ _ ⟨r0, hcw⟩ ?_
          clear hK
          (try simp only [Act.put, List.setIfInBounds_toArray, List.set_cons_zero, List.set_cons_succ])
          refine rg_one (fuel := 0) 8 rfl (by kernel_rfl) (by kernel_rfl) ?_
          simp only [pick1, wpHead]
          intro K hK
          rw [if_pos (by rfl)]
          go_simp
          refine hK.out _ _ ⟨r0, hcw⟩ ?_
          clear hK
          (try simp only [Act.put, List.setIfInBounds_toArray, List.set_cons_zero, List.set_cons_succ])
          refine rg_done (by kernel_rfl) ?_
          go_wp2
          go_roundg (ls.length - (k + 1))
          case measure => omega
          case rel => exact ⟨k + 1, W, by omega, by go_num, (by congr 1; omega), by omega, HMM, r0, hBw, hBv⟩
      · have hm := HEND.out m (by have := hmin.out; rwa [List.take_of_length_le (by omega)] at this)
        have HM := Lib.hid hm
        go_wp2
        go_ret2
        exact ⟨by rw [HN.out.1, HN.out.2, ← HM.out]; rfl, hbw⟩
  · have HN : Hid (fewN cw B D R = 0 ∧ fewE cw B D R = 100) := by
      show _ ∧ _
      unfold fewN fewE
      rw [if_neg (by omega)]
      exact ⟨rfl, hc⟩
    rw [hc]
    clear hc
    rintro e w1 ⟨rfl, hb1⟩
    have hB1 : Below w.heap.size w w1 := by (repeat' (first | (with_reducible exact Below.refl _ _) | (with_reducible assumption) | (with_reducible refine Below.drew ?_) | (with_reducible refine below_drewN ?_ _) | (with_reducible refine Below.setCell ?_ ?_ _) | (with_reducible refine Below.alloc ?_ ?_ _) | (refine Below.trans ?_ (Below.mono (by with_reducible assumption) ?_)) | omega | (exact Below.size (by with_reducible assumption)) | (simp; done) | (simp; omega)))
    go_wp2
    go_ret2
    exact ⟨by rw [HN.out.1, HN.out.2]; rfl, hB1⟩

end Go.Proofs.YtibkgnnpmidgfaaDoor
namespace Go.Proofs.YtibkgnnpmidgfaaDoor
open Go.RowKit

theorem sorted_same : ∀ {l m : List Int}, l.Pairwise (· < ·) → m.Pairwise (· < ·) → (∀ x, x ∈ l ↔ x ∈ m) → l = m
  | [], [], _, _, _ => rfl
  | [], y :: m, _, _, h => by have := (h y).2 (List.mem_cons_self ..); cases this
  | x :: l, [], _, _, h => by have := (h x).1 (List.mem_cons_self ..); cases this
  | x :: l, y :: m, hl, hm, h => by
    obtain ⟨h1, h2⟩ := List.pairwise_cons.1 hl
    obtain ⟨h3, h4⟩ := List.pairwise_cons.1 hm
    have hxy : x = y := by
      rcases List.mem_cons.1 ((h x).1 (List.mem_cons_self ..)) with e | e
      · exact e
      · rcases List.mem_cons.1 ((h y).2 (List.mem_cons_self ..)) with e' | e'
        · exact e'.symm
        · have := h3 x e
          have := h1 y e'
          omega
    subst hxy
    rw [sorted_same h2 h4 fun z => ?_]
    constructor
    · intro hz
      rcases List.mem_cons.1 ((h z).1 (List.mem_cons_of_mem _ hz)) with e | e
      · subst e; have := h1 z hz; omega
      · exact e
    · intro hz
      rcases List.mem_cons.1 ((h z).2 (List.mem_cons_of_mem _ hz)) with e | e
      · subst e; have := h3 z hz; omega
      · exact e
theorem opsU_sorted (cw : Int) (B D : List Pt) (R : List Rep) (d : Nat) (lo : Int) : ∀ j, (opsU cw B D R d lo j).Pairwise (· < ·)
  | 0 => List.Pairwise.nil
  | j + 1 => by
    rw [opsU_succ]
    split
    · rw [List.pairwise_append]
      refine ⟨opsU_sorted cw B D R d lo j, List.pairwise_singleton _ _, fun x hx y hy => ?_⟩
      rw [List.mem_singleton.1 hy]
      exact (mem_opsU.1 hx).2.1
    · exact opsU_sorted cw B D R d lo j
/-- The numbers from 1 to k that are so. -/
def oneP (p : Int → Bool) : Nat → List Int
  | 0 => []
  | k + 1 => if p ((k + 1 : Nat) : Int) = true then oneP p k ++ [((k + 1 : Nat) : Int)] else oneP p k
theorem oneP_succ (p : Int → Bool) (k : Nat) : oneP p (k + 1) = if p ((k + 1 : Nat) : Int) = true then oneP p k ++ [((k + 1 : Nat) : Int)] else oneP p k := rfl
theorem oneP_len (p : Int → Bool) : ∀ k, (oneP p k).length ≤ k
  | 0 => Nat.le_refl _
  | k + 1 => by have := oneP_len p k; rw [oneP_succ]; split <;> simp <;> omega
theorem mem_oneP {p : Int → Bool} {x : Int} : ∀ {k : Nat}, x ∈ oneP p k ↔ 1 ≤ x ∧ x ≤ k ∧ p x = true
  | 0 => by simp [oneP]; intro h1 h2; omega
  | k + 1 => by
    rw [oneP_succ]
    split
    · rename_i h
      rw [List.mem_append, mem_oneP, List.mem_singleton]
      constructor
      · rintro (⟨h1, h2, h3⟩ | rfl)
        · exact ⟨h1, by omega, h3⟩
        · exact ⟨by omega, by omega, h⟩
      · rintro ⟨h1, h2, h3⟩
        by_cases e : x = ((k + 1 : Nat) : Int)
        · exact Or.inr e
        · exact Or.inl ⟨h1, by omega, h3⟩
    · rename_i h
      rw [mem_oneP]
      constructor
      · rintro ⟨h1, h2, h3⟩; exact ⟨h1, by omega, h3⟩
      · rintro ⟨h1, h2, h3⟩
        refine ⟨h1, ?_, h3⟩
        by_cases e : x = ((k + 1 : Nat) : Int)
        · subst e; exact absurd h3 h
        · omega
theorem oneP_sorted (p : Int → Bool) : ∀ k, (oneP p k).Pairwise (· < ·)
  | 0 => List.Pairwise.nil
  | k + 1 => by
    rw [oneP_succ]
    split
    · rw [List.pairwise_append]
      refine ⟨oneP_sorted p k, List.pairwise_singleton _ _, fun x hx y hy => ?_⟩
      rw [List.mem_singleton.1 hy]
      have := mem_oneP.1 hx
      omega
    · exact oneP_sorted p k
/-- Is this the opening of a pair of dividers in some of these choices? -/
def hasP (ts : List (List Int)) (d : Nat) (x : Int) : Bool := ts.any fun l => decide (l.getD d 0 = x)
theorem hasP_iff {ts : List (List Int)} {d : Nat} {x : Int} : hasP ts d x = true ↔ ∃ l ∈ ts, l.getD d 0 = x := by
  unfold hasP
  simp only [List.any_eq_true, decide_eq_true_eq]
theorem ops_one {cw : Int} {B D : List Pt} {R : List Rep} (hV : Val cw B D R) {d : Nat} (hd : d < D.length) : oneP (hasP (truL cw B D R) d) 60 = opsD cw B D R d := by
  refine sorted_same (oneP_sorted _ _) (opsU_sorted _ _ _ _ _ _ _) fun x => ?_
  show _ ↔ x ∈ opsD cw B D R d
  rw [mem_oneP, ops_truth hV hd, hasP_iff]
  constructor
  · rintro ⟨_, _, l, h1, h2⟩
    exact ⟨l, mem_tru.1 h1, h2⟩
  · rintro ⟨l, h1, rfl⟩
    have := opn_bounds hV h1.1 hd
    exact ⟨this.1, by omega, l, mem_tru.2 h1, rfl⟩

set_option maxRecDepth 100000 in
set_option maxHeartbeats 8000000 in
theorem openings38 (A0 A1 A2 : Option Addr) (n0 n1 n2 c0 c1 c2 : Nat) (cw : Int) (d : Int) (B D : List Pt) (R : List Rep) (w : World) (hC : RdC w A0 A1 A2 n0 n1 n2 B D R) :
    Calls Tryd.prog 38 #[.agg #[.slice A0 n0 c0, .slice A1 n1 c1, .slice A2 n2 c2, .int .i64 cw], .int .i64 d] w fun e w' => ∃ (A : Option Addr) (cap : Nat), e = .returned (.tuple #[.slice A (opgL cw B D R d).length cap, .int .i64 (opE cw B D R (isDv D d))]) ∧ RdI w' A (opgL cw B D R d) ∧ Below w.heap.size w w' := by
  obtain ⟨i0, hi0, hi1, hi2, hi3⟩ := info_parts Tryd.info3
  have HC := Lib.hid hC
  have HL1 := Lib.hid hC.h1
  have hl1 := hC.l1
  clear hC
  have hdv : Hid (btw d 0 ((n1 : Int) - 1) = isDv D d) := by show _ = _; unfold isDv; rw [HL1.out]
  have o0 : Own (w.alloc (.cells #[.slice A0 n0 c0, .slice A1 n1 c1, .slice A2 n2 c2, .int .i64 cw] 26)) w.heap.size [.slice A0 n0 c0, .slice A1 n1 c1, .slice A2 n2 c2, .int .i64 cw] := Own.new' _ _ rfl rfl
  have oB : Below w.heap.size w (w.alloc (.cells #[.slice A0 n0 c0, .slice A1 n1 c1, .slice A2 n2 c2, .int .i64 cw] 26)) := by (repeat' (first | (with_reducible exact Below.refl _ _) | (with_reducible assumption) | (with_reducible refine Below.drew ?_) | (with_reducible refine below_drewN ?_ _) | (with_reducible refine Below.setCell ?_ ?_ _) | (with_reducible refine Below.alloc ?_ ?_ _) | (refine Below.trans ?_ (Below.mono (by with_reducible assumption) ?_)) | omega | (exact Below.size (by with_reducible assumption)) | (simp; done) | (simp; omega)))
  obtain ⟨v, hv⟩ : ∃ v, isDv D d = v := ⟨_, rfl⟩
  rw [hv] at hdv
  have HDV := Lib.hid hv
  obtain ⟨E, hE⟩ : ∃ E, opE cw B D R v = E := ⟨_, rfl⟩
  have HE := Lib.hid hE
  obtain ⟨ts, hts⟩ : ∃ x, knoL cw B D R v = x := ⟨_, rfl⟩
  have HTS := Lib.hid hts
  clear hE hts hv
  go_enter Tryd.func38, Tryd.ntmps38
  go_wp2
  refine rg_start (fun w' => Own w' w.heap.size [.slice A0 n0 c0, .slice A1 n1 c1, .slice A2 n2 c2, .int .i64 cw]) 10 (by kernel_rfl) rfl ?_
  refine rg_take (fuel := 7) [0, 1, 2] (by kernel_rfl) (by intro _ _ d _ _ h; cases d <;> exact h) rfl (by kernel_rfl) (by kernel_rfl) o0.drew ?_
  simp only [pickL, pick1, List.cons_append, List.nil_append]
  iterate 3 (refine wpTake_cons (v := ?_) (Or.inl ⟨by rfl, ?_⟩) ?_; rotate_left; (intro w' hSw; have y0 : w'.cell? ⟨w.heap.size, 0, none⟩ = some (.slice A0 n0 c0) := hSw.c 0; have y1 : w'.cell? ⟨w.heap.size, 1, none⟩ = some (.slice A1 n1 c1) := hSw.c 1; have y2 : w'.cell? ⟨w.heap.size, 2, none⟩ = some (.slice A2 n2 c2) := hSw.c 2; have y3 : w'.cell? ⟨w.heap.size, 3, none⟩ = some (.int .i64 cw) := hSw.c 3; clear hSw; go_simp; (try with_reducible rfl)); (try simp only [Act.put, List.setIfInBounds_toArray, List.set_cons_zero, List.set_cons_succ]))
  refine wpTake_nil ?_
  have r0 := o0.drew
  have hBw := oB.drew
  clear o0 oB
  generalize World.drew _ = W at r0 hBw ⊢
  refine rg_one (fuel := 6) 3 rfl (by kernel_rfl) (by kernel_rfl) ?_
  simp only [pick1, wpHead]
  intro K hK
  rw [if_pos (by rfl)]
  go_simp
  refine (cbB hdv.out (isDivider32 _ _ _ _ _ _ _ _ _ _ _ _ hl1)).mono ?_
  rintro e w1 ⟨rfl, hb1⟩
  replace r0 := r0.below hb1 r0.lt
  replace hBw := hBw.trans (hb1.mono hBw.size)
  clear hb1
  go_wp2_with fail
  refine hK.out _ _ r0 ?_
  clear hK
  (try simp only [Act.put, List.setIfInBounds_toArray, List.set_cons_zero, List.set_cons_succ])
  refine rg_one (fuel := 5) 4 rfl (by kernel_rfl) (by kernel_rfl) ?_
  simp only [pick1, wpHead]
  intro K hK
  rw [if_pos (by rfl)]
  go_simp
  refine (known78 A0 A1 A2 n0 n1 n2 c0 c1 c2 cw v B D R _ (HC.out.below hBw (Nat.le_refl _))).mono ?_
  rw [HE.out, HTS.out]
  rintro e w2 ⟨A2', c2', rfl, hll, hb2⟩
  replace r0 := r0.below hb2 r0.lt
  replace hBw := hBw.trans (hb2.mono hBw.size)
  clear hb2
  go_wp2_with fail
  refine hK.out _ _ r0 ?_
  clear hK
  (try simp only [Act.put, List.setIfInBounds_toArray, List.set_cons_zero, List.set_cons_succ])
  refine rg_take (fuel := 2) [5, 6, 7] (by kernel_rfl) (by intro _ _ d _ _ h; cases d <;> exact h) rfl (by kernel_rfl) (by kernel_rfl) r0 ?_
  simp only [pickL, pick1, List.cons_append, List.nil_append]
  iterate 3 (refine wpTake_cons (v := ?_) (Or.inl ⟨by rfl, ?_⟩) ?_; rotate_left; (intro w' hSw; clear hSw; go_simp; (try with_reducible rfl)); (try simp only [Act.put, List.setIfInBounds_toArray, List.set_cons_zero, List.set_cons_succ]))
  refine wpTake_nil ?_
  refine rg_one (fuel := 1) 8 rfl (by kernel_rfl) (by kernel_rfl) ?_
  simp only [pick1, wpHead]
  intro K hK
  rw [if_pos (by rfl)]
  go_simp
  refine hK.out _ _ r0 ?_
  clear hK
  (try simp only [Act.put, List.setIfInBounds_toArray, List.set_cons_zero, List.set_cons_succ])
  refine rg_one (fuel := 0) 9 rfl (by kernel_rfl) (by kernel_rfl) ?_
  simp only [pick1, wpHead]
  intro K hK
  rw [if_pos (by rfl)]
  go_simp
  refine hK.out _ _ r0 ?_
  clear hK
  (try simp only [Act.put, List.setIfInBounds_toArray, List.set_cons_zero, List.set_cons_succ])
  refine rg_done (by kernel_rfl) ?_
  have HLL := Lib.hid hll
  clear hll hl1 hdv
  by_cases hz : E = 0
  · subst hz
    obtain ⟨hvt, hchk⟩ := opE_true HE.out
    have hV := Lib.hid (val_of hchk)
    subst hvt
    have hvv := HDV.out
    unfold isDv at hvv
    have hdd := btw_iff.1 hvv
    obtain ⟨d, rfl⟩ := Int.eq_ofNat_of_zero_le hdd.1
    have hdD : d < D.length := by omega
    have HTR : Hid (ts = truL cw B D R) := by show _ = _; rw [← HTS.out]; unfold knoL; rw [if_pos HE.out]
    have HOG : Hid (opgL cw B D R d = oneP (hasP ts d) 60) := by
      show _ = _
      rw [HTR.out, ops_one hV.out hdD]
      unfold opgL
      rw [HDV.out, if_pos HE.out]; rfl
    have hlen : ts.length ≤ 777600000 := by
      rw [HTR.out]
      unfold truL
      exact Nat.le_trans (List.length_filter_le _ _) (Nat.le_trans (all_pow (wid_le hV.out)) (Nat.le_trans (Nat.pow_le_pow_right (by decide) (show D.length + 1 ≤ 5 by have := hV.out.d; omega)) (by decide)))
    have HLN : Hid (∀ l ∈ ts, l.length = D.length) := fun l hl => by rw [HTR.out] at hl; exact (mem_tru.1 hl).1.len
    have hD4 := hV.out.d
    have hww : w.heap.size < w2.heap.size := r0.lt
    clear hvv hdd hchk
    obtain ⟨l0, k0, f0⟩ := r0
    have r0 := Own.mk l0 k0 f0
    go_wp2
    go_loopg [8, 9] 60 (fun K x y wr => ∃ k : Nat, K + k = 60 ∧ y = .int .i64 ((k + 1 : Nat) : Int) ∧ Own wr w.heap.size [.slice A0 n0 c0, .slice A1 n1 c1, .slice A2 n2 c2, .int .i64 cw] ∧ Gro wr w2.heap.size 3 1 x ((oneP (hasP ts d) k).map irow) ∧ Below w.heap.size w wr ∧ Below w2.heap.size w2 wr)
    case atStart => exact ⟨0, by omega, rfl, r0, (by simpa [oneP] using Gro.nil _ _ _ _), hBw, Below.refl _ _⟩
    case round =>
      clear r0 l0 k0 f0 hBw
      obtain ⟨wo, rfl⟩ : ∃ wo : World, wo = wr := ⟨_, rfl⟩
      obtain ⟨k, hk, rfl, q0, hg, hbw, hbv⟩ := hrel
      obtain ⟨PA, pc, rfl, hrd⟩ := hg.out
      obtain ⟨l0, k0, f0⟩ := q0
      have q0 := Own.mk l0 k0 f0
      by_cases hkn : k < 60
      · clear hrd
        go_wp2
        go_loopg [8, 10] ts.length (fun K v y wr => ∃ j : Nat, K + j = ts.length ∧ y = .int .i64 j ∧ v = .slice PA ((oneP (hasP ts d) k).map irow).length pc ∧ Hid (∀ l ∈ ts.take j, l.getD d 0 ≠ ((k + 1 : Nat) : Int)) ∧ Own wr w.heap.size [.slice A0 n0 c0, .slice A1 n1 c1, .slice A2 n2 c2, .int .i64 cw] ∧ Gro wr w2.heap.size 3 1 (.slice PA ((oneP (hasP ts d) k).map irow).length pc) ((oneP (hasP ts d) k).map irow) ∧ Below w.heap.size w wr ∧ Below w2.heap.size w2 wr)
        case atStart => exact ⟨0, by omega, rfl, rfl, (by intro l h; simp at h), q0, hg, hbw, hbv⟩
        case round =>
          clear q0 l0 k0 f0 hg hbw hbv
          obtain ⟨wi, rfl⟩ : ∃ wi : World, wi = wr := ⟨_, rfl⟩
          obtain ⟨j, hj, rfl, rfl, hno, q0, hg, hbw, hbv⟩ := hrel
          obtain ⟨l0, k0, f0⟩ := q0
          have q0 := Own.mk l0 k0 f0
          have hzi := hbv.size
          by_cases hjl : j < ts.length
          · obtain ⟨l, hl⟩ : ∃ l, Hid (ts[j]? = some l) := ⟨ts[j]'hjl, by simp [Hid]⟩
            have hll := HLN.out l (List.mem_of_getElem? hl.out)
            obtain ⟨b, off, A', c', rfl, hbl, hcell, hrl⟩ := (HLL.out.below hbv (Nat.le_refl _)).elem hl.out
            obtain ⟨x, hx⟩ : ∃ x, l.getD d 0 = x := ⟨_, rfl⟩
            have hat := getD_at (show d < l.length by omega)
            rw [hx] at hat
            obtain ⟨b9, o9, rfl, hb9, g9⟩ := hrl.elem hat
            have hl4 : l.length ≤ 4 := by omega
            have hdl : d < l.length := by omega
            have HX := Lib.hid hx
            clear hat hx hll
            by_cases he : x = ((k + 1 : Nat) : Int)
            · have hbit : Hid (hasP ts d ((k + 1 : Nat) : Int) = true) := hasP_iff.2 ⟨l, List.mem_of_getElem? hl.out, by rw [HX.out]; exact he⟩
              have HCP : Hid (oneP (hasP ts d) (k + 1) = oneP (hasP ts d) k ++ [((k + 1 : Nat) : Int)]) := by show _ = _; rw [oneP_succ, if_pos hbit.out]
              have hcl : ((oneP (hasP ts d) k).map irow).length ≤ 60 := by rw [List.length_map]; have := oneP_len (hasP ts d) k; omega
              have heq : (x == ((k + 1 : Nat) : Int)) = true := by simpa using he
              have heq' : (x == (k : Int) + 1) = true := by rw [he]; simp
              clear he hrl
              go_wp2_with (at_builtin; go_must (refine wpList_append_own _ rfl _ _ 46 rfl w2.heap.size 3 i0 (.int .i64 0) 1 8 Tryd.underlying46 hi0 hi1 hi2 hi3 rfl (by decide) _ _ _ rfl (hg.2.alloc _) ⟨wi.heap.size, 0, none⟩ 1 1 [.int .i64 ((k + 1 : Nat) : Int)] rfl rfl (cell_one_new _ _ _) (by intro u hu; simp at hu; subst hu; rfl) (by unfold maxLen; omega) (by omega) (by simp; omega) ?_; intro v' w8 hown' hgrow hnil; have hbA : Below w2.heap.size wi w8 := ((Below.refl _ wi).alloc hzi _).grown hgrow (by simp; omega) (fun i hi => (hg.2.lt i hi).1); have hg8 : Gro w8 w2.heap.size 3 1 v' ((oneP (hasP ts d) k).map irow ++ [irow ((k + 1 : Nat) : Int)]) := Gro.grown hg rfl hown'; clear hown' hgrow hnil))
              go_roundg (60 - (k + 1))
              case measure => omega
              case rel => exact ⟨k + 1, by omega, by go_num, q0.below hbA hww, (by rw [HCP.out, List.map_append]; exact hg8), hbw.trans (hbA.mono (by omega)), hbv.trans hbA⟩
            · have hne : (x == ((k + 1 : Nat) : Int)) = false := by simpa using he
              clear hrl
              go_wp2
              go_roundg (ts.length - (j + 1))
              case measure => omega
              case rel => exact ⟨j + 1, by omega, by go_num, rfl, (by
                intro y hy
                rw [take_snoc hl.out] at hy
                rcases List.mem_append.1 hy with h | h
                · exact hno.out y h
                · rw [List.mem_singleton.1 h, HX.out]; exact he), q0, hg, hbw, hbv⟩
          · have hbit : hasP ts d ((k + 1 : Nat) : Int) = false := by
              refine Bool.eq_false_iff.2 fun h => ?_
              obtain ⟨l, h1, h2⟩ := hasP_iff.1 h
              exact hno.out l (by rw [List.take_of_length_le (by omega)]; exact h1) h2
            have HCP : Hid (oneP (hasP ts d) (k + 1) = oneP (hasP ts d) k) := by show _ = _; rw [oneP_succ, hbit]; rfl
            clear hbit
            go_wp2
            go_roundg (60 - (k + 1))
            case measure => omega
            case rel => exact ⟨k + 1, by omega, by go_num, q0, (by rw [HCP.out]; exact hg), hbw, hbv⟩
      · have hkn : k = 60 := by omega
        subst hkn
        go_wp2
        go_ret2
        rw [HOG.out, HDV.out, HE.out]
        exact ⟨PA, pc, by rw [List.length_map]; rfl, hrd, hbw⟩
  · have hne : (E == 0) = false := by simp [hz]
    have HN : Hid (opgL cw B D R d = []) := by show _ = _; unfold opgL; rw [HDV.out, HE.out, if_neg hz]
    go_wp2
    go_ret2
    rw [HN.out, HDV.out, HE.out]
    exact ⟨none, 0, rfl, RdI.nil _ _, hBw⟩

end Go.Proofs.YtibkgnnpmidgfaaDoor
