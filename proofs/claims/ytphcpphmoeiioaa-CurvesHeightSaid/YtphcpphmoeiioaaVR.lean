/- Plain: curves backwards, with the other sign, flat ones. -/
import Derived.Test.YtphcpphmoeiioaaVQ
namespace Go.Proofs.Ytphcpphmoeiioaa
/-- All heights of the other sign. -/
def neg (c : Cv) : Cv := { c with rlo := -c.rhi, rhi := -c.rlo, kn := c.kn.map fun q => ⟨q.pos, -q.hi, -q.lo⟩ }
theorem wUp_neg (l : List Kn) (h : Nat → Int) (k : Nat) : wUp (l.map fun q => ⟨q.pos, -q.hi, -q.lo⟩) (fun i => -h i) k = wUp l h k := by
  rw [wUp_count, wUp_count, List.countP_map]
  congr 1
  funext q
  show upK k (fun i => -h i) ⟨q.pos, -q.hi, -q.lo⟩ = upK k h q
  unfold upK
  show (decide (0 ≤ q.pos) && decide (q.pos ≤ (k : Int)) && !(decide (-q.hi ≤ -h q.pos.toNat) && decide (-h q.pos.toNat ≤ -q.lo))) = _
  rw [decide_eq_decide.mpr (show (-q.hi ≤ -h q.pos.toNat) ↔ (h q.pos.toNat ≤ q.hi) by omega), decide_eq_decide.mpr (show (-h q.pos.toNat ≤ -q.lo) ↔ (q.lo ≤ h q.pos.toNat) by omega), Bool.and_comm (decide (h q.pos.toNat ≤ q.hi))]
theorem ok_neg {c : Cv} {k : Nat} {h : Nat → Int} (H : Ok c k h) : Ok (neg c) k (fun i => -h i) := by
  refine ⟨fun i hi => ?_, fun i hi => ?_⟩
  · have := H.1 i hi; show -c.rhi ≤ -h i ∧ -h i ≤ -c.rlo; omega
  · have := H.2 i hi; show -h i - c.slope ≤ -h (i + 1) ∧ -h (i + 1) ≤ -h i + c.slope; omega
theorem truth_neg {c : Cv} {h : Nat → Int} (H : Truth c h) : Truth (neg c) (fun i => -h i) :=
  ⟨ok_neg H.1, by show ((wUp (c.kn.map _) _ c.long : Nat) : Int) ≤ c.wrong; rw [wUp_neg]; exact H.2⟩
theorem neg_neg' (c : Cv) : neg (neg c) = c := by
  show Cv.mk c.long c.slope (- -c.rlo) (- -c.rhi) ((c.kn.map _).map _) c.wrong = c
  rw [Int.neg_neg, Int.neg_neg, List.map_map]
  have e3 : c.kn.map ((fun q : Kn => (⟨q.pos, -q.hi, -q.lo⟩ : Kn)) ∘ fun q : Kn => (⟨q.pos, -q.hi, -q.lo⟩ : Kn)) = c.kn := by
    conv => rhs; rw [← List.map_id c.kn]
    refine List.map_congr_left fun q _ => ?_
    show Kn.mk q.pos (- -q.lo) (- -q.hi) = q
    rw [Int.neg_neg, Int.neg_neg]
  rw [e3]
theorem truth_gen {c : Cv} {h : Nat → Int} (H : Truth (neg c) h) : Truth c (fun i => -h i) := by
  have := truth_neg H
  rwa [neg_neg'] at this
theorem sUp_neg (h : Nat → Int) (a b : Int) (k : Nat) : sUp (fun i => -h i) a b k = -sUp h a b k := by
  induction k with
  | zero => rfl
  | succ k ih =>
    show sUp (fun i => -h i) a b k + (if _ then -h k + -h (k + 1) else 0) = -(sUp h a b k + _)
    rw [ih]
    split
    · show -sUp h a b k + (-h k + -h (k + 1)) = _
      omega
    · omega
theorem neg_ht {c : Cv} {p : Nat} {lo hi : Int} (H : IsSp (HtP c p) lo hi) : IsSp (HtP (neg c) p) (-hi) (-lo) :=
  sp_anti H (fun s ⟨h, k, e⟩ => ⟨_, truth_neg k, by show -h p = -s; rw [e]⟩) (fun s ⟨h, k, e⟩ => ⟨_, truth_gen k, by show -h p = -s; rw [e]⟩)
theorem neg_in {c : Cv} {a b lo hi : Int} (H : IsSp (InP c a b) lo hi) : IsSp (InP (neg c) a b) (-hi) (-lo) :=
  sp_anti H (fun s ⟨h, k, e⟩ => ⟨_, truth_neg k, by rw [sUp_neg]; show -sUp h a b c.long = -s; rw [e]⟩)
    (fun s ⟨h, k, e⟩ => ⟨_, truth_gen k, by rw [sUp_neg]; show -sUp h a b c.long = -s; rw [show sUp h a b c.long = s from e]⟩)
theorem neg_ln {c : Cv} {p : Nat} {lo hi : Int} (H : IsSp (LnP c p) lo hi) : IsSp (LnP (neg c) p) (-hi) (-lo) :=
  sp_anti H (fun s ⟨h, k, e⟩ => ⟨_, truth_neg k, by show -h (p + 1) - -h p = -s; omega⟩) (fun s ⟨h, k, e⟩ => ⟨_, truth_gen k, by show -h (p + 1) - -h p = -s; omega⟩)
theorem neg_few {c : Cv} {m : Int} (H : FewP c m) : FewP (neg c) m := by
  obtain ⟨⟨h, k, e⟩, H2⟩ := H
  refine ⟨⟨_, ok_neg k, ?_⟩, fun g hg => ?_⟩
  · show ((wUp (c.kn.map _) _ c.long : Nat) : Int) = m; rw [wUp_neg]; exact e
  · have k1 := ok_neg hg
    rw [neg_neg'] at k1
    have e1 := H2 _ k1
    have e2 := wUp_neg (neg c).kn g c.long
    have e3 : ((neg c).kn.map fun q => (⟨q.pos, -q.hi, -q.lo⟩ : Kn)) = c.kn := congrArg Cv.kn (neg_neg' c)
    rw [e3] at e2
    rw [e2] at e1
    exact e1
/-- Backwards. -/
def bck (c : Cv) : Cv := { c with kn := c.kn.map fun q => ⟨c.long - q.pos, q.lo, q.hi⟩ }
def turn (n : Nat) (h : Nat → Int) : Nat → Int := fun i => h (n - i)
theorem wUp_bck (l : List Kn) (n : Nat) (h : Nat → Int) : wUp (l.map fun q => ⟨n - q.pos, q.lo, q.hi⟩) (turn n h) n = wUp l h n := by
  rw [wUp_count, wUp_count, List.countP_map]
  congr 1
  funext q
  show upK n (turn n h) ⟨n - q.pos, q.lo, q.hi⟩ = upK n h q
  unfold upK
  show (decide (0 ≤ (n : Int) - q.pos) && decide ((n : Int) - q.pos ≤ (n : Int)) && !(decide (q.lo ≤ h (n - ((n : Int) - q.pos).toNat)) && decide (h (n - ((n : Int) - q.pos).toNat) ≤ q.hi))) = _
  by_cases e1 : 0 ≤ q.pos
  · by_cases e2 : q.pos ≤ n
    · have e3 : n - ((n : Int) - q.pos).toNat = q.pos.toNat := by omega
      rw [e3, decide_eq_true (show (0 : Int) ≤ (n : Int) - q.pos by omega), decide_eq_true (show (n : Int) - q.pos ≤ (n : Int) by omega), decide_eq_true e1, decide_eq_true e2]
    · rw [decide_eq_false (show ¬ (0 : Int) ≤ (n : Int) - q.pos by omega), decide_eq_false e2]; simp
  · rw [decide_eq_false (show ¬ (n : Int) - q.pos ≤ (n : Int) by omega), decide_eq_false e1]; simp
theorem ok_bck {c : Cv} {h : Nat → Int} (H : Ok c c.long h) : Ok (bck c) c.long (turn c.long h) := by
  refine ⟨fun i hi => H.1 (c.long - i) (by omega), fun i hi => ?_⟩
  have := H.2 (c.long - (i + 1)) (by omega)
  have e : c.long - (i + 1) + 1 = c.long - i := by omega
  rw [e] at this
  show h (c.long - i) - c.slope ≤ h (c.long - (i + 1)) ∧ h (c.long - (i + 1)) ≤ h (c.long - i) + c.slope
  omega
theorem truth_bck {c : Cv} {h : Nat → Int} (H : Truth c h) : Truth (bck c) (turn c.long h) :=
  ⟨ok_bck H.1, by show ((wUp (c.kn.map _) _ c.long : Nat) : Int) ≤ c.wrong; rw [wUp_bck]; exact H.2⟩
theorem bck_bck (c : Cv) : bck (bck c) = c := by
  show Cv.mk c.long c.slope c.rlo c.rhi ((c.kn.map _).map _) c.wrong = c
  rw [List.map_map]
  have e3 : c.kn.map ((fun q : Kn => (⟨c.long - q.pos, q.lo, q.hi⟩ : Kn)) ∘ fun q : Kn => (⟨c.long - q.pos, q.lo, q.hi⟩ : Kn)) = c.kn := by
    conv => rhs; rw [← List.map_id c.kn]
    refine List.map_congr_left fun q _ => ?_
    show Kn.mk ((c.long : Int) - (c.long - q.pos)) q.lo q.hi = q
    rw [show (c.long : Int) - (c.long - q.pos) = q.pos by omega]
  show Cv.mk c.long c.slope c.rlo c.rhi (c.kn.map ((fun q : Kn => (⟨c.long - q.pos, q.lo, q.hi⟩ : Kn)) ∘ fun q : Kn => (⟨c.long - q.pos, q.lo, q.hi⟩ : Kn))) c.wrong = c
  rw [e3]
theorem truth_kcb {c : Cv} {h : Nat → Int} (H : Truth (bck c) h) : Truth c (turn c.long h) := by
  have := truth_bck H
  rwa [bck_bck] at this
/-- The sum of the first k numbers of a row. -/
def tot (f : Nat → Int) : Nat → Int
  | 0 => 0
  | k + 1 => tot f k + f k
theorem tot_left (f : Nat → Int) (k : Nat) : tot f (k + 1) = f 0 + tot (fun i => f (i + 1)) k := by
  induction k with
  | zero => show 0 + f 0 = f 0 + 0; omega
  | succ k ih => show tot f (k + 1) + f (k + 1) = f 0 + (tot (fun i => f (i + 1)) k + f (k + 1)); rw [ih]; omega
theorem tot_congr {f g : Nat → Int} {k : Nat} (e : ∀ i, i < k → f i = g i) : tot f k = tot g k := by
  induction k with
  | zero => rfl
  | succ k ih => show tot f k + f k = tot g k + g k; rw [ih fun i hi => e i (by omega), e k (by omega)]
theorem tot_turn (f : Nat → Int) (k : Nat) : tot f k = tot (fun i => f (k - 1 - i)) k := by
  induction k generalizing f with
  | zero => rfl
  | succ k ih =>
    rw [tot_left, ih (fun i => f (i + 1))]
    show f 0 + _ = tot (fun i => f (k + 1 - 1 - i)) k + f (k + 1 - 1 - k)
    rw [show k + 1 - 1 - k = 0 by omega, tot_congr (f := fun i => f (k - 1 - i + 1)) (g := fun i => f (k + 1 - 1 - i)) (k := k) fun i hi => by show f (k - 1 - i + 1) = f (k + 1 - 1 - i); congr 1; omega]
    omega
theorem sUp_tot (h : Nat → Int) (a b : Int) (k : Nat) : sUp h a b k = tot (fun i => if a < (i : Int) + 1 ∧ (i : Int) + 1 ≤ b then h i + h (i + 1) else 0) k := by
  induction k with
  | zero => rfl
  | succ k ih => show sUp h a b k + _ = tot _ k + _; rw [ih]
theorem sUp_turn (h : Nat → Int) (n : Nat) (a b : Int) : sUp (turn n h) (n - b) (n - a) n = sUp h a b n := by
  rw [sUp_tot, sUp_tot, tot_turn]
  refine tot_congr fun i hi => ?_
  show (if (n : Int) - b < ((n - 1 - i : Nat) : Int) + 1 ∧ ((n - 1 - i : Nat) : Int) + 1 ≤ (n : Int) - a then h (n - (n - 1 - i)) + h (n - (n - 1 - i + 1)) else 0) = _
  have e1 : n - (n - 1 - i) = i + 1 := by omega
  have e2 : n - (n - 1 - i + 1) = i := by omega
  rw [e1, e2]
  by_cases e : a < (i : Int) + 1 ∧ (i : Int) + 1 ≤ b
  · rw [if_pos e, if_pos (by omega)]; omega
  · rw [if_neg e, if_neg (by omega)]
theorem bck_ht {c : Cv} {p : Nat} (hp : p ≤ c.long) {lo hi : Int} (H : IsSp (HtP c p) lo hi) : IsSp (HtP (bck c) (c.long - p)) lo hi :=
  H.congr fun s => ⟨fun ⟨h, k, e⟩ => ⟨_, truth_bck k, by show h (c.long - (c.long - p)) = s; rw [show c.long - (c.long - p) = p by omega]; exact e⟩, fun ⟨h, k, e⟩ => ⟨_, truth_kcb k, e⟩⟩
theorem bck_in {c : Cv} {a b lo hi : Int} (H : IsSp (InP c a b) lo hi) : IsSp (InP (bck c) (c.long - b) (c.long - a)) lo hi := by
  refine H.congr fun s => ⟨fun ⟨h, k, e⟩ => ⟨_, truth_bck k, ?_⟩, fun ⟨h, k, e⟩ => ⟨_, truth_kcb k, ?_⟩⟩
  · show sUp (turn c.long h) _ _ c.long = s; rw [sUp_turn]; exact e
  · have e' : sUp h (c.long - b) (c.long - a) c.long = s := e
    have := sUp_turn h c.long (c.long - b) (c.long - a)
    rw [show (c.long : Int) - (c.long - a) = a by omega, show (c.long : Int) - (c.long - b) = b by omega] at this
    rw [this]; exact e'
theorem bck_ln {c : Cv} {p : Nat} (hp : p < c.long) {lo hi : Int} (H : IsSp (LnP c p) lo hi) : IsSp (LnP (bck c) (c.long - 1 - p)) (-hi) (-lo) := by
  refine sp_anti H (fun s ⟨h, k, e⟩ => ⟨_, truth_bck k, ?_⟩) (fun s ⟨h, k, e⟩ => ⟨_, truth_kcb k, ?_⟩)
  · show h (c.long - (c.long - 1 - p + 1)) - h (c.long - (c.long - 1 - p)) = -s
    rw [show c.long - (c.long - 1 - p + 1) = p by omega, show c.long - (c.long - 1 - p) = p + 1 by omega]; omega
  · show h (c.long - (p + 1)) - h (c.long - p) = -s
    rw [show c.long - (p + 1) = c.long - 1 - p by omega, show c.long - p = c.long - 1 - p + 1 by omega]; omega
theorem bck_few {c : Cv} {m : Int} (H : FewP c m) : FewP (bck c) m := by
  obtain ⟨⟨h, k, e⟩, H2⟩ := H
  refine ⟨⟨_, ok_bck k, ?_⟩, fun g hg => ?_⟩
  · show ((wUp (c.kn.map _) _ c.long : Nat) : Int) = m; rw [wUp_bck]; exact e
  · have k1 := ok_bck (c := bck c) hg
    rw [bck_bck] at k1
    have e1 := H2 _ k1
    have e2 := wUp_bck (bck c).kn c.long g
    have e3 : ((bck c).kn.map fun q => (⟨c.long - q.pos, q.lo, q.hi⟩ : Kn)) = c.kn := congrArg Cv.kn (bck_bck c)
    rw [e3] at e2
    have e4 : (wUp c.kn (turn (bck c).long g) c.long : Int) = wUp c.kn (turn c.long g) c.long := rfl
    rw [e4, e2] at e1
    exact e1
/-- P7.16: a flat curve. -/
theorem flat_eq {c : Cv} (h0 : c.slope ≤ 0) {k : Nat} {h : Nat → Int} (H : Ok c k h) : ∀ i, i ≤ k → h i = h 0 := by
  intro i
  induction i with
  | zero => intro _; rfl
  | succ i ih => intro hi; have := H.2 i (by omega); have := ih (by omega); omega
theorem flat_sum {x : Int} {h : Nat → Int} (a b : Int) (k : Nat) (e : ∀ i, i ≤ k → h i = x) : sUp h a b k = 2 * x * cUp a b k := by
  induction k with
  | zero => show (0 : Int) = 2 * x * 0; omega
  | succ k ih =>
    show sUp h a b k + _ = 2 * x * (cUp a b k + _)
    rw [ih fun i hi => e i (by omega), e k (by omega), e (k + 1) (Nat.le_refl _), Int.mul_add]
    split <;> omega
theorem flat_ht {c : Cv} (h0 : c.slope ≤ 0) {p q : Nat} (hp : p ≤ c.long) (hq : q ≤ c.long) {lo hi : Int} (H : IsSp (HtP c p) lo hi) : IsSp (HtP c q) lo hi :=
  H.congr fun s => ⟨fun ⟨h, k, e⟩ => ⟨h, k, by rw [flat_eq h0 k.1 q hq, ← flat_eq h0 k.1 p hp]; exact e⟩, fun ⟨h, k, e⟩ => ⟨h, k, by rw [flat_eq h0 k.1 p hp, ← flat_eq h0 k.1 q hq]; exact e⟩⟩
theorem flat_in {c : Cv} (h0 : c.slope ≤ 0) {p q : Nat} (hp : p ≤ c.long) (hq : q ≤ c.long) {lo hi : Int} (H : IsSp (HtP c p) lo hi) : IsSp (InP c 0 q) (2 * lo * q) (2 * hi * q) := by
  have key : ∀ h, Truth c h → sUp h 0 q c.long = 2 * h p * q := fun h k => by
    rw [flat_sum (x := h p) 0 q c.long fun i hi => by rw [flat_eq h0 k.1 i hi, flat_eq h0 k.1 p hp], cUp_eq _ _ (Int.le_refl 0) (Int.natCast_nonneg q)]
    congr 1
    omega
  refine ⟨?_, ?_, fun s ⟨h, k, e⟩ => ?_⟩
  · obtain ⟨h, k, e⟩ := H.1; exact ⟨h, k, by rw [key h k, e]⟩
  · obtain ⟨h, k, e⟩ := H.2.1; exact ⟨h, k, by rw [key h k, e]⟩
  · have := H.2.2 (h p) ⟨h, k, rfl⟩
    have e' := key h k
    rw [← show sUp h 0 q c.long = s from e, e']
    have h1 : (2 * lo) ≤ 2 * h p := by omega
    have h2 : 2 * h p ≤ 2 * hi := by omega
    exact ⟨Int.mul_le_mul_of_nonneg_right h1 (Int.natCast_nonneg q), Int.mul_le_mul_of_nonneg_right h2 (Int.natCast_nonneg q)⟩
end Go.Proofs.Ytphcpphmoeiioaa
