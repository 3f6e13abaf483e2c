/- Plain mathematics on numbers and reduced ratios: no program in sight. -/
namespace Go.Proofs.Ytfboiplpfkommaa

def btw (n low high : Int) : Bool := decide (low ≤ n) && decide (n ≤ high)
theorem btw_t {n lo hi : Int} (h : lo ≤ n) : btw n lo hi = decide (n ≤ hi) := by simp [btw, h]
theorem btw_f {n lo hi : Int} (h : n < lo) : btw n lo hi = false := by simp [btw]; omega
theorem btw_iff {n lo hi : Int} : btw n lo hi = true ↔ lo ≤ n ∧ n ≤ hi := by simp [btw]

def ratB (n d : Int) : Bool := btw d 1 1000000 && btw n (-1000000) 1000000
theorem ratB_t {n d : Int} (h : btw d 1 1000000 = true) : ratB n d = btw n (-1000000) 1000000 := by simp [ratB, h]
theorem ratB_f {n d : Int} (h : ¬ btw d 1 1000000 = true) : ratB n d = false := by simp [ratB]; intro h'; contradiction
theorem ratB_iff {n d : Int} : ratB n d = true ↔ (1 ≤ d ∧ d ≤ 1000000) ∧ (-1000000 ≤ n ∧ n ≤ 1000000) := by
  simp only [ratB, Bool.and_eq_true, btw_iff]

theorem gcd_step (a b : Int) : Int.gcd b (a.tmod b) = Int.gcd a b := by
  rw [Int.tmod_def, Int.gcd_sub_mul_left_right, Int.gcd_comm]
theorem gcd_step' (a b : Int) : Int.gcd b (a % b) = Int.gcd a b := by
  rw [Int.emod_def, Int.gcd_sub_mul_left_right, Int.gcd_comm]
theorem gcd_abs (n d : Int) : Int.gcd n.natAbs d = Int.gcd n d := by
  simp [Int.gcd]

/-- The terms of the reduced ratio that is equal to n / d. -/
def redN (n d : Int) : Int := n / (Int.gcd n d)
def redD (n d : Int) : Int := d / (Int.gcd n d)

theorem gcd_pos (n d : Int) (h : 1 ≤ d) : 1 ≤ (Int.gcd n d : Int) := by
  have : 0 < Int.gcd n d := Int.gcd_pos_of_ne_zero_right n (by omega)
  omega
theorem redN_eq {n d g : Int} (h : g = Int.gcd n d) : n.tdiv g = redN n d := by
  subst h; exact Int.tdiv_eq_ediv_of_dvd (Int.gcd_dvd_left n d)
theorem redD_eq {n d g : Int} (h : g = Int.gcd n d) : d / g = redD n d := by subst h; rfl
theorem redN_mul (n d : Int) : redN n d * Int.gcd n d = n := Int.ediv_mul_cancel (Int.gcd_dvd_left n d)
theorem redD_mul (n d : Int) : redD n d * Int.gcd n d = d := Int.ediv_mul_cancel (Int.gcd_dvd_right n d)
theorem redD_pos (n d : Int) (h : 1 ≤ d) : 1 ≤ redD n d := by
  have h1 := redD_mul n d
  have h2 := gcd_pos n d h
  false_or_by_contra
  have h3 : redD n d ≤ 0 := by omega
  have := Int.mul_nonpos_of_nonpos_of_nonneg h3 (show (0 : Int) ≤ Int.gcd n d by omega)
  omega
theorem redD_le (n d : Int) (h : 1 ≤ d) : redD n d ≤ d := by
  have h1 := redD_mul n d
  have h2 := gcd_pos n d h
  have h3 := redD_pos n d h
  have : redD n d * 1 ≤ redD n d * Int.gcd n d := Int.mul_le_mul_of_nonneg_left h2 (by omega)
  omega
theorem redN_le (n d M : Int) (h : 1 ≤ d) (h1 : -M ≤ n) (h2 : n ≤ M) : -M ≤ redN n d ∧ redN n d ≤ M := by
  have h1 := redN_mul n d
  have h2 := gcd_pos n d h
  rcases Int.le_total 0 (redN n d) with h3 | h3
  · have : redN n d * 1 ≤ redN n d * Int.gcd n d := Int.mul_le_mul_of_nonneg_left h2 (by omega)
    omega
  · have : redN n d * Int.gcd n d ≤ redN n d * 1 := Int.mul_le_mul_of_nonpos_left h3 h2
    omega

/-- What 'told' answers: the reduced ratio, or ErrMany. -/
structure RE where
  n : Int
  d : Int
  e : Int
theorem RE.of {r : RE} {n d e : Int} (h1 : r.n = n) (h2 : r.d = d) (h3 : r.e = e) : r = ⟨n, d, e⟩ := by cases r; simp_all
def told (n d : Int) : RE := if ratB (redN n d) (redD n d) then ⟨redN n d, redD n d, 0⟩ else ⟨0, 0, 2⟩
theorem told_t {n d : Int} (h : ratB (redN n d) (redD n d) = true) : told n d = ⟨redN n d, redD n d, 0⟩ := by simp [told, h]
theorem told_f {n d : Int} (h : ¬ ratB (redN n d) (redD n d) = true) : told n d = ⟨0, 0, 2⟩ := by simp [told, h]
theorem told_ok {n d : Int} (hr : ratB n d = true) : told n d = ⟨redN n d, redD n d, 0⟩ := by
  obtain ⟨⟨h1, h2⟩, h3, h4⟩ := ratB_iff.1 hr
  refine told_t (ratB_iff.2 ⟨⟨redD_pos n d h1, ?_⟩, ?_⟩)
  · have := redD_le n d h1; omega
  · exact redN_le n d 1000000 h1 h3 h4

def reduceV (n d : Int) : RE := if ratB n d then ⟨redN n d, redD n d, 0⟩ else ⟨0, 0, 10⟩
theorem reduceV_t {n d : Int} (h : ratB n d = true) : reduceV n d = ⟨redN n d, redD n d, 0⟩ := by simp [reduceV, h]
theorem reduceV_f {n d : Int} (h : ratB n d = false) : reduceV n d = ⟨0, 0, 10⟩ := by simp [reduceV, h]
def addV (a b c d : Int) : RE := if ratB a b && ratB c d then told (a * d + c * b) (b * d) else ⟨0, 0, 10⟩
theorem addV_t {a b c d : Int} (h : ratB a b = true) (k : ratB c d = true) : addV a b c d = told (a * d + c * b) (b * d) := by simp [addV, h, k]
theorem addV_f1 {a b c d : Int} (h : ratB a b = false) : addV a b c d = ⟨0, 0, 10⟩ := by simp [addV, h]
theorem addV_f2 {a b c d : Int} (h : ratB c d = false) : addV a b c d = ⟨0, 0, 10⟩ := by simp [addV, h]
def mulV (a b c d : Int) : RE := if ratB a b && ratB c d then told (a * c) (b * d) else ⟨0, 0, 10⟩
theorem mulV_t {a b c d : Int} (h : ratB a b = true) (k : ratB c d = true) : mulV a b c d = told (a * c) (b * d) := by simp [mulV, h, k]
theorem mulV_f1 {a b c d : Int} (h : ratB a b = false) : mulV a b c d = ⟨0, 0, 10⟩ := by simp [mulV, h]
theorem mulV_f2 {a b c d : Int} (h : ratB c d = false) : mulV a b c d = ⟨0, 0, 10⟩ := by simp [mulV, h]
/-- A number and an error. -/
structure IE where
  n : Int
  e : Int
theorem IE.of {r : IE} {n e : Int} (h1 : r.n = n) (h3 : r.e = e) : r = ⟨n, e⟩ := by cases r; simp_all
def cmpV (a b c d : Int) : IE := if ratB a b && ratB c d then ⟨(a * d - c * b).sign, 0⟩ else ⟨0, 10⟩
theorem cmpV_t {a b c d : Int} (h : ratB a b = true) (k : ratB c d = true) : cmpV a b c d = ⟨(a * d - c * b).sign, 0⟩ := by simp [cmpV, h, k]
theorem cmpV_f1 {a b c d : Int} (h : ratB a b = false) : cmpV a b c d = ⟨0, 10⟩ := by simp [cmpV, h]
theorem cmpV_f2 {a b c d : Int} (h : ratB c d = false) : cmpV a b c d = ⟨0, 10⟩ := by simp [cmpV, h]

/-- A product of two numbers within bounds. -/
theorem mul_bd {a b A B : Int} (h1 : -A ≤ a) (h2 : a ≤ A) (h3 : -B ≤ b) (h4 : b ≤ B) (hA : 0 ≤ A) (hB : 0 ≤ B) : -(A * B) ≤ a * b ∧ a * b ≤ A * B := by
  have h : (a * b).natAbs ≤ (A * B).natAbs := by
    rw [Int.natAbs_mul, Int.natAbs_mul]; exact Nat.mul_le_mul (by omega) (by omega)
  have hAB : 0 ≤ A * B := Int.mul_nonneg hA hB
  omega
theorem rat_mul {a b c d : Int} (h : ratB a b = true) (k : ratB c d = true) :
    (-1000000000000 ≤ a * d ∧ a * d ≤ 1000000000000) ∧ (-1000000000000 ≤ c * b ∧ c * b ≤ 1000000000000) ∧ (1 ≤ b * d ∧ b * d ≤ 1000000000000) ∧ (-1000000000000 ≤ a * c ∧ a * c ≤ 1000000000000) := by
  obtain ⟨⟨h1, h2⟩, h3, h4⟩ := ratB_iff.1 h
  obtain ⟨⟨k1, k2⟩, k3, k4⟩ := ratB_iff.1 k
  have e1 := @mul_bd a d 1000000 1000000 (by omega) (by omega) (by omega) (by omega) (by omega) (by omega)
  have e2 := @mul_bd c b 1000000 1000000 (by omega) (by omega) (by omega) (by omega) (by omega) (by omega)
  have e3 := @mul_bd b d 1000000 1000000 (by omega) (by omega) (by omega) (by omega) (by omega) (by omega)
  have e4 := @mul_bd a c 1000000 1000000 (by omega) (by omega) (by omega) (by omega) (by omega) (by omega)
  have e5 := Int.mul_pos (show 0 < b by omega) (show 0 < d by omega)
  omega

end Go.Proofs.Ytfboiplpfkommaa
