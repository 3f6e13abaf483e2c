/- Plain mathematics: sums, products and the order of ratios. -/
import Derived.Test.YtfboiplpfkommaaBestQ
namespace Go.Proofs.Ytfboiplpfkommaa

theorem red_scale (n d k : Int) (hk : 1 ≤ k) : redN (n * k) (d * k) = redN n d ∧ redD (n * k) (d * k) = redD n d := by
  have e : (Int.gcd (n * k) (d * k) : Int) = Int.gcd n d * k := by
    rw [Int.gcd_mul_right, Int.natCast_mul, Int.natAbs_of_nonneg (by omega)]
  unfold redN redD
  rw [e]
  exact ⟨Int.mul_ediv_mul_of_pos_left _ _ (by omega), Int.mul_ediv_mul_of_pos_left _ _ (by omega)⟩
theorem red_congr {n d n' d' : Int} (hd : 1 ≤ d) (hd' : 1 ≤ d') (h : n * d' = n' * d) : redN n d = redN n' d' ∧ redD n d = redD n' d' := by
  have a := red_scale n d d' hd'
  have b := red_scale n' d' d hd
  rw [h, Int.mul_comm d d'] at a
  exact ⟨a.1.symm.trans b.1, a.2.symm.trans b.2⟩
theorem told_congr {n d n' d' : Int} (hd : 1 ≤ d) (hd' : 1 ≤ d') (h : n * d' = n' * d) : told n d = told n' d' := by
  obtain ⟨e1, e2⟩ := red_congr hd hd' h
  unfold told; rw [e1, e2]
theorem red_cross (n d : Int) : redN n d * d = n * redD n d := by
  have e1 := redN_mul n d
  have e2 := redD_mul n d
  generalize (Int.gcd n d : Int) = g at *
  grind
theorem red_red (n d : Int) (hd : 1 ≤ d) : redN (redN n d) (redD n d) = redN n d ∧ redD (redN n d) (redD n d) = redD n d := by
  have := red_congr (n := redN n d) (d := redD n d) (n' := n) (d' := d) (redD_pos n d hd) hd (red_cross n d)
  exact this

/-- A valid, reduced ratio. -/
def redB (n d : Int) : Bool := ratB n d && (decide (redN n d = n) && decide (redD n d = d))
theorem redB_iff {n d : Int} : redB n d = true ↔ ratB n d = true ∧ redN n d = n ∧ redD n d = d := by
  simp [redB]
theorem told_spec (n d : Int) (hd : 1 ≤ d) : (∃ x y, told n d = ⟨x, y, 0⟩ ∧ redB x y = true ∧ x * d = n * y) ∨ told n d = ⟨0, 0, 2⟩ := by
  unfold told
  split
  · rename_i h
    exact .inl ⟨_, _, rfl, redB_iff.2 ⟨h, red_red n d hd⟩, red_cross n d⟩
  · exact .inr rfl
theorem redB_d {x y : Int} (h : redB x y = true) : 1 ≤ y := (ratB_iff.1 (redB_iff.1 h).1).1.1
theorem ratB_d {x y : Int} (h : ratB x y = true) : 1 ≤ y := (ratB_iff.1 h).1.1

theorem addV_comm (a b c d : Int) : addV a b c d = addV c d a b := by
  unfold addV
  rw [Bool.and_comm, Int.add_comm, Int.mul_comm b d]
theorem mulV_comm (a b c d : Int) : mulV a b c d = mulV c d a b := by
  unfold mulV
  rw [Bool.and_comm, Int.mul_comm b d, Int.mul_comm a c]

/-- A sum or product: an answer with what it is, or ErrMany. -/
structure Ans (r : RE) (n d : Int) : Prop where
  e : r.e = 0 ∨ r.e = 2
  ok : r.e = 0 → redB r.n r.d = true ∧ r.n * d = n * r.d
theorem told_ans (n d : Int) (hd : 1 ≤ d) : Ans (told n d) n d := by
  rcases told_spec n d hd with ⟨x, y, h, h1, h2⟩ | h
  · rw [h]; exact ⟨.inl rfl, fun _ => ⟨h1, h2⟩⟩
  · rw [h]; exact ⟨.inr rfl, fun h => by cases h⟩
theorem addV_ans {a b c d : Int} (h : ratB a b = true) (k : ratB c d = true) : Ans (addV a b c d) (a * d + c * b) (b * d) := by
  rw [addV_t h k]; exact told_ans _ _ (rat_mul h k).2.2.1.1
theorem mulV_ans {a b c d : Int} (h : ratB a b = true) (k : ratB c d = true) : Ans (mulV a b c d) (a * c) (b * d) := by
  rw [mulV_t h k]; exact told_ans _ _ (rat_mul h k).2.2.1.1
theorem cancel {d x y : Int} (hd : 1 ≤ d) (h : d * x = d * y) : x = y := Int.eq_of_mul_eq_mul_left (by omega) h

/-- The sum of three. -/
theorem add_assoc3 {a b c d p q : Int} (h : ratB a b = true) (k : ratB c d = true) (l : ratB p q = true) (he : (addV a b c d).e = 0) (hi : (addV c d p q).e = 0) :
    addV (addV a b c d).n (addV a b c d).d p q = addV a b (addV c d p q).n (addV c d p q).d := by
  obtain ⟨h1, h2⟩ := (addV_ans h k).ok he
  obtain ⟨h3, h4⟩ := (addV_ans k l).ok hi
  have r1 := (redB_iff.1 h1).1
  have r2 := (redB_iff.1 h3).1
  rw [addV_t r1 l, addV_t h r2]
  have := ratB_d h; have hd := ratB_d k
  refine told_congr (rat_mul r1 l).2.2.1.1 (rat_mul h r2).2.2.1.1 ?_
  generalize (addV a b c d).n = x at *
  generalize (addV a b c d).d = y at *
  generalize (addV c d p q).n = u at *
  generalize (addV c d p q).d = v at *
  refine cancel hd ?_
  grind
theorem mul_assoc3 {a b c d p q : Int} (h : ratB a b = true) (k : ratB c d = true) (l : ratB p q = true) (he : (mulV a b c d).e = 0) (hi : (mulV c d p q).e = 0) :
    mulV (mulV a b c d).n (mulV a b c d).d p q = mulV a b (mulV c d p q).n (mulV c d p q).d := by
  obtain ⟨h1, h2⟩ := (mulV_ans h k).ok he
  obtain ⟨h3, h4⟩ := (mulV_ans k l).ok hi
  have r1 := (redB_iff.1 h1).1
  have r2 := (redB_iff.1 h3).1
  rw [mulV_t r1 l, mulV_t h r2]
  have := ratB_d h; have hd := ratB_d k
  refine told_congr (rat_mul r1 l).2.2.1.1 (rat_mul h r2).2.2.1.1 ?_
  generalize (mulV a b c d).n = x at *
  generalize (mulV a b c d).d = y at *
  generalize (mulV c d p q).n = u at *
  generalize (mulV c d p q).d = v at *
  refine cancel hd ?_
  grind
theorem mul_add3 {a b c d p q : Int} (h : ratB a b = true) (k : ratB c d = true) (l : ratB p q = true) (hi : (addV c d p q).e = 0) (hg : (mulV a b c d).e = 0) (hk : (mulV a b p q).e = 0) :
    mulV a b (addV c d p q).n (addV c d p q).d = addV (mulV a b c d).n (mulV a b c d).d (mulV a b p q).n (mulV a b p q).d := by
  obtain ⟨h1, h2⟩ := (addV_ans k l).ok hi
  obtain ⟨h3, h4⟩ := (mulV_ans h k).ok hg
  obtain ⟨h5, h6⟩ := (mulV_ans h l).ok hk
  have r1 := (redB_iff.1 h1).1
  have r2 := (redB_iff.1 h3).1
  have r3 := (redB_iff.1 h5).1
  rw [mulV_t h r1, addV_t r2 r3]
  have hb := ratB_d h; have hd := ratB_d k; have hq := ratB_d l
  refine told_congr (rat_mul h r1).2.2.1.1 (rat_mul r2 r3).2.2.1.1 ?_
  generalize (addV c d p q).n = x at *
  generalize (addV c d p q).d = y at *
  generalize (mulV a b c d).n = u at *
  generalize (mulV a b c d).d = v at *
  generalize (mulV a b p q).n = s at *
  generalize (mulV a b p q).d = t at *
  refine cancel hd (cancel hq (cancel hb ?_))
  grind

end Go.Proofs.Ytfboiplpfkommaa
