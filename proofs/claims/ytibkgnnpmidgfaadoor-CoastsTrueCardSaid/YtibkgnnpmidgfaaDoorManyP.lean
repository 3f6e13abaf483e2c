/- Plain mathematics: how many truths there are, by how many reports are wrong. -/
import Derived.Test.YtibkgnnpmidgfaaDoorCk
namespace Go.Proofs.YtibkgnnpmidgfaaDoor

def sumTo (g : Nat → Nat) : Nat → Nat
  | 0 => 0
  | n + 1 => sumTo g n + g n
theorem sumTo_succ (g : Nat → Nat) (n : Nat) : sumTo g (n + 1) = sumTo g n + g n := rfl
theorem sumTo_congr {g h : Nat → Nat} : ∀ {n : Nat}, (∀ i, i < n → g i = h i) → sumTo g n = sumTo h n
  | 0, _ => rfl
  | n + 1, e => by rw [sumTo_succ, sumTo_succ, sumTo_congr (fun i hi => e i (by omega)), e n (by omega)]
theorem sumTo_zero : ∀ (n : Nat), sumTo (fun _ => 0) n = 0
  | 0 => rfl
  | n + 1 => by rw [sumTo_succ, sumTo_zero n]
theorem sumTo_add (g h : Nat → Nat) : ∀ n, sumTo (fun i => g i + h i) n = sumTo g n + sumTo h n
  | 0 => rfl
  | n + 1 => by rw [sumTo_succ, sumTo_succ, sumTo_succ, sumTo_add g h n]; omega
theorem sumTo_swap (g : Nat → Nat → Nat) (m : Nat) : ∀ n, sumTo (fun i => sumTo (g i) m) n = sumTo (fun j => sumTo (fun i => g i j) n) m
  | 0 => (sumTo_zero m).symm
  | n + 1 => by
    rw [sumTo_succ, sumTo_swap g m n, ← sumTo_add]
    exact sumTo_congr fun j _ => rfl
theorem sumTo_le {g : Nat → Nat} {c : Nat} : ∀ {n : Nat}, (∀ i, i < n → g i ≤ c) → sumTo g n ≤ n * c
  | 0, _ => Nat.zero_le _
  | n + 1, h => by
    have := sumTo_le (n := n) (fun i hi => h i (by omega))
    have := h n (by omega)
    rw [sumTo_succ, Nat.succ_mul]; omega
theorem sumTo_point (c i0 : Nat) : ∀ n, sumTo (fun i => if i = i0 then c else 0) n = if i0 < n then c else 0
  | 0 => rfl
  | n + 1 => by
    rw [sumTo_succ, sumTo_point c i0 n]
    by_cases h1 : i0 < n
    · rw [if_pos h1, if_neg (by omega), if_pos (by omega)]; rfl
    · by_cases h2 : n = i0
      · subst h2; rw [if_neg (by omega), if_pos rfl, if_pos (by omega)]; omega
      · rw [if_neg h1, if_neg h2, if_neg (by omega)]
theorem sumTo_upd {g h : Nat → Nat} {i0 c : Nat} (h1 : g i0 = h i0 + c) (h2 : ∀ i, i ≠ i0 → g i = h i) : ∀ n, i0 < n → sumTo g n = sumTo h n + c
  | 0, hn => by omega
  | n + 1, hn => by
    rw [sumTo_succ, sumTo_succ]
    by_cases e : i0 = n
    · subst e
      rw [sumTo_congr (g := g) (h := h) (fun i hi => h2 i (by omega)), h1]; omega
    · rw [sumTo_upd h1 h2 n (by omega), h2 n (by omega)]; omega

def wid (D : List Pt) (k : Nat) : Nat := ((sAt D k).2 - (sAt D k).1 + 1).toNat
/-- How many reports are wrong with opening number j of a pair of dividers. -/
def wrO (B D : List Pt) (R : List Rep) (k j : Nat) : Nat := wrongD B R k ((sAt D k).1 + j)
/-- In how many ways just v reports are wrong with openings of the first k pairs of dividers. -/
def cn (B D : List Pt) (R : List Rep) : Nat → Nat → Nat
  | 0, v => if v = 0 then 1 else 0
  | k + 1, v => sumTo (fun j => if wrO B D R k j ≤ v then cn B D R k (v - wrO B D R k j) else 0) (wid D k)
theorem cn_succ (B D : List Pt) (R : List Rep) (k v : Nat) : cn B D R (k + 1) v = sumTo (fun j => if wrO B D R k j ≤ v then cn B D R k (v - wrO B D R k j) else 0) (wid D k) := rfl
theorem cn_le {B D : List Pt} {R : List Rep} (hw : ∀ k, wid D k ≤ 60) : ∀ k v, cn B D R k v ≤ 60 ^ k
  | 0, v => by unfold cn; split <;> simp
  | k + 1, v => by
    rw [cn_succ]
    refine Nat.le_trans (sumTo_le (c := 60 ^ k) (fun j _ => ?_)) ?_
    · split
      · exact cn_le hw k _
      · exact Nat.zero_le _
    · rw [Nat.pow_succ, Nat.mul_comm]; exact Nat.mul_le_mul_left _ (hw k)
theorem cn_far {B D : List Pt} {R : List Rep} (hR : R.length ≤ 8) : ∀ k v, 8 * k < v → cn B D R k v = 0
  | 0, v, h => by unfold cn; rw [if_neg (by omega)]
  | k + 1, v, h => by
    rw [cn_succ]
    refine (sumTo_congr (h := fun _ => 0) fun j _ => ?_).trans (sumTo_zero _)
    have := wrongL_le B k ((sAt D k).1 + j) R
    have h8 : wrO B D R k j ≤ 8 := by unfold wrO wrongD; omega
    split
    · exact cn_far hR k _ (by omega)
    · rfl
theorem wid_le {cw : Int} {B D : List Pt} {R : List Rep} (hV : Val cw B D R) (k : Nat) : wid D k ≤ 60 := by
  unfold wid
  by_cases h : k < D.length
  · have e : sAt D k = D[k] := by unfold sAt; rw [List.getD_eq_getElem?_getD, List.getElem?_eq_getElem h]; rfl
    have := hV.ds _ (List.getElem_mem h)
    rw [← e] at this; omega
  · have e : sAt D k = (0, 0) := by unfold sAt; rw [List.getD_eq_getElem?_getD, List.getElem?_eq_none (by omega)]; rfl
    rw [e]; decide
/-- What has come to y so far: c ways with u wrong before, of those openings that are no longer to come. -/
def doneP (B D : List Pt) (R : List Rep) (k : Nat) (left : Nat → Bool) (u c y : Nat) : Nat := sumTo (fun j => if left j = true then 0 else if u + wrO B D R k j = y then c else 0) (wid D k)
def doneN (B D : List Pt) (R : List Rep) (k : Nat) (f : Nat → Nat) (left : Nat → Bool) (y : Nat) : Nat := sumTo (fun u => if left u = true then 0 else doneP B D R k (fun _ => false) u (f u) y) 33
theorem doneN_all (B D : List Pt) (R : List Rep) (k y : Nat) (f : Nat → Nat) (hf : ∀ v, f v = cn B D R k v) (hR : R.length ≤ 8) (hk : k ≤ 4) : doneN B D R k f (fun _ => false) y = cn B D R (k + 1) y := by
  unfold doneN doneP
  rw [cn_succ]
  simp only [Bool.false_eq_true, if_false]
  rw [sumTo_swap]
  refine sumTo_congr fun j _ => ?_
  by_cases h : wrO B D R k j ≤ y
  · rw [if_pos h]
    have e : ∀ u, (if u + wrO B D R k j = y then f u else 0) = if u = y - wrO B D R k j then cn B D R k (y - wrO B D R k j) else 0 := by
      intro u
      by_cases e : u = y - wrO B D R k j
      · rw [if_pos (by omega), if_pos e, hf, e]
      · rw [if_neg (by omega), if_neg e]
    rw [sumTo_congr (fun u _ => e u), sumTo_point]
    split
    · rfl
    · exact (cn_far hR k _ (by omega)).symm
  · rw [if_neg h]
    exact (sumTo_congr (h := fun _ => 0) fun u _ => if_neg (by omega)).trans (sumTo_zero _)
theorem doneP_step {B D : List Pt} {R : List Rep} {k : Nat} {left : Nat → Bool} {u c y j : Nat} (hl : left j = true) (hj : j < wid D k) :
    doneP B D R k (fun i => left i && !decide (i = j)) u c y = doneP B D R k left u c y + (if u + wrO B D R k j = y then c else 0) := by
  unfold doneP
  refine sumTo_upd (i0 := j) ?_ (fun i hi => ?_) _ hj
  · simp [hl]
  · simp [hi]
theorem doneP_start {B D : List Pt} {R : List Rep} {k : Nat} {left : Nat → Bool} {u c y : Nat} (hl : ∀ j, j < wid D k → left j = true) : doneP B D R k left u c y = 0 := by
  unfold doneP
  exact (sumTo_congr (h := fun _ => 0) fun j hj => by rw [if_pos (hl j hj)]).trans (sumTo_zero _)
theorem doneP_nil (B D : List Pt) (R : List Rep) (k : Nat) (left : Nat → Bool) (u y : Nat) : doneP B D R k left u 0 y = 0 := by
  unfold doneP
  refine (sumTo_congr (h := fun _ => 0) fun j hj => ?_).trans (sumTo_zero _)
  split
  · rfl
  · split <;> rfl
theorem doneN_step {B D : List Pt} {R : List Rep} {k : Nat} {f : Nat → Nat} {left : Nat → Bool} {y u : Nat} (hl : left u = true) (hu : u < 33) :
    doneN B D R k f (fun i => left i && !decide (i = u)) y = doneN B D R k f left y + doneP B D R k (fun _ => false) u (f u) y := by
  unfold doneN
  refine sumTo_upd (i0 := u) ?_ (fun i hi => ?_) _ hu
  · simp [hl]
  · simp [hi]
theorem doneN_start {B D : List Pt} {R : List Rep} {k : Nat} {f : Nat → Nat} {left : Nat → Bool} {y : Nat} (hl : ∀ u, left u = false → f u = 0) : doneN B D R k f left y = 0 := by
  unfold doneN
  refine (sumTo_congr (h := fun _ => 0) fun u hu => ?_).trans (sumTo_zero _)
  cases h : left u
  · rw [if_neg (by simp), hl u h]; exact doneP_nil B D R k _ u y
  · rw [if_pos rfl]
theorem doneP_le {B D : List Pt} {R : List Rep} {k : Nat} {left : Nat → Bool} {u c y m : Nat} (hc : c ≤ m) : doneP B D R k left u c y ≤ wid D k * m := by
  unfold doneP
  refine sumTo_le fun j hj => ?_
  split
  · exact Nat.zero_le _
  · split <;> omega
theorem doneN_le {B D : List Pt} {R : List Rep} {k : Nat} {f : Nat → Nat} {left : Nat → Bool} {y m : Nat} (hf : ∀ u, f u ≤ m) : doneN B D R k f left y ≤ 33 * (wid D k * m) := by
  unfold doneN
  refine sumTo_le fun u hu => ?_
  split
  · exact Nat.zero_le _
  · exact doneP_le (hf u)
def manyV (cw : Int) (B D : List Pt) (R : List Rep) : Nat := sumTo (fun v => if (v : Int) ≤ cw then cn B D R D.length v else 0) 33

/-- What has been counted so far of the truths. -/
def manyL (cw : Int) (B D : List Pt) (R : List Rep) (left : Nat → Bool) : Nat := sumTo (fun v => if left v = true then 0 else if (v : Int) ≤ cw then cn B D R D.length v else 0) 33
theorem manyL_step {cw : Int} {B D : List Pt} {R : List Rep} {left : Nat → Bool} {u : Nat} (hl : left u = true) (hu : u < 33) :
    manyL cw B D R (fun i => left i && !decide (i = u)) = manyL cw B D R left + (if (u : Int) ≤ cw then cn B D R D.length u else 0) := by
  unfold manyL
  refine sumTo_upd (i0 := u) ?_ (fun i hi => ?_) _ hu
  · simp [hl]
  · simp [hi]
theorem manyL_start {cw : Int} {B D : List Pt} {R : List Rep} {left : Nat → Bool} (hl : ∀ u, left u = false → cn B D R D.length u = 0) : manyL cw B D R left = 0 := by
  unfold manyL
  refine (sumTo_congr (h := fun _ => 0) fun u hu => ?_).trans (sumTo_zero _)
  cases h : left u
  · rw [if_neg (by simp), hl u h]; split <;> rfl
  · rw [if_pos rfl]
theorem manyL_end (cw : Int) (B D : List Pt) (R : List Rep) : manyL cw B D R (fun _ => false) = manyV cw B D R := by
  unfold manyL manyV
  exact sumTo_congr fun u _ => by simp
theorem manyL_le {cw : Int} {B D : List Pt} {R : List Rep} {left : Nat → Bool} {m : Nat} (hf : ∀ u, cn B D R D.length u ≤ m) : manyL cw B D R left ≤ 33 * m := by
  unfold manyL
  refine sumTo_le fun u hu => ?_
  split
  · exact Nat.zero_le _
  · split
    · exact hf u
    · exact Nat.zero_le _

end Go.Proofs.YtibkgnnpmidgfaaDoor
