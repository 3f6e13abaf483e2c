/- Plain mathematics: what the two searches for the nearest ratio go through. -/
import Derived.Test.YtfboiplpfkommaaPure
namespace Go.Proofs.Ytfboiplpfkommaa

structure BS where
  n : Int
  d : Int
  f : Int

/-- How far num / den is from rn / rd, times both Dens. -/
def far (rn rd den num : Int) : Int := ((rn * den - num * rd).natAbs : Int)
def bwins (rn rd den num : Int) (s : BS) : Bool := decide (s.d = 0) || decide (far rn rd den num * s.d < s.f * den)
def bstep (rn rd den num : Int) (s : BS) : BS := if bwins rn rd den num s then ⟨num, den, far rn rd den num⟩ else s
def binner (rn rd den low j : Int) (s : BS) : BS :=
  if j = 0 then s else if j = 1 then bstep rn rd den low s else bstep rn rd den (low + 1) (bstep rn rd den low s)
theorem binner_zero (rn rd den low : Int) (s : BS) : binner rn rd den low 0 s = s := rfl
theorem binner_succ (rn rd den low j : Int) (s : BS) (h0 : 0 ≤ j) (h1 : j ≤ 1) : binner rn rd den low (j + 1) s = bstep rn rd den (low + j) (binner rn rd den low j s) := by
  have : j = 0 ∨ j = 1 := by omega
  rcases this with rfl | rfl
  · simp [binner]
  · simp [binner]
def bafter (rn rd : Int) : Nat → BS
  | 0 => ⟨0, 0, 0⟩
  | k + 1 => binner rn rd (k + 1) (rn * (k + 1) / rd) 2 (bafter rn rd k)

/-- The candidates are near. -/
theorem cand_bd {rn rd den low j : Int} (hrd : 1 ≤ rd) (hlow : low = rn * den / rd) (h0 : 0 ≤ j) (h1 : j ≤ 1) :
    0 ≤ far rn rd den (low + j) ∧ far rn rd den (low + j) ≤ rd ∧ rn * den - rd ≤ (low + j) * rd ∧ (low + j) * rd ≤ rn * den + rd := by
  have e1 := Int.emod_nonneg (rn * den) (show rd ≠ 0 by omega)
  have e2 := Int.emod_lt_of_pos (rn * den) (show 0 < rd by omega)
  have e3 := Int.mul_ediv_add_emod (rn * den) rd
  rw [← hlow] at e3
  have e4 : (low + j) * rd = rd * low + j * rd := by rw [Int.add_mul, Int.mul_comm]
  have e5 : j * rd = 0 ∨ j * rd = rd := by
    have : j = 0 ∨ j = 1 := by omega
    rcases this with rfl | rfl <;> simp
  unfold far
  omega

structure BB (rd k : Int) (s : BS) : Prop where
  d0 : 0 ≤ s.d
  d1 : s.d ≤ k
  f0 : 0 ≤ s.f
  f1 : s.f ≤ rd
theorem BB.mono {rd k k' : Int} {s : BS} (h : BB rd k s) (hk : k ≤ k') : BB rd k' s := ⟨h.d0, by have := h.d1; omega, h.f0, h.f1⟩
theorem BB.step {rn rd den num : Int} {s : BS} (h : BB rd den s) (hd : 1 ≤ den) (h0 : 0 ≤ far rn rd den num) (h1 : far rn rd den num ≤ rd) : BB rd den (bstep rn rd den num s) := by
  unfold bstep; split
  · exact ⟨by show 0 ≤ den; omega, by show den ≤ den; omega, h0, h1⟩
  · exact h
theorem BB.inner {rn rd den low j : Int} {s : BS} (h : BB rd den s) (hd : 1 ≤ den) (hrd : 1 ≤ rd) (hlow : low = rn * den / rd) (h0 : 0 ≤ j) (h1 : j ≤ 2) : BB rd den (binner rn rd den low j s) := by
  have c0 := @cand_bd rn rd den low 0 hrd hlow (by omega) (by omega)
  have c1 := @cand_bd rn rd den low 1 hrd hlow (by omega) (by omega)
  rw [Int.add_zero] at c0
  have : j = 0 ∨ j = 1 ∨ j = 2 := by omega
  rcases this with rfl | rfl | rfl
  · exact h
  · exact h.step hd c0.1 c0.2.1
  · exact (h.step hd c0.1 c0.2.1).step hd c1.1 c1.2.1
theorem bafter_bd (rn rd : Int) (hrd : 1 ≤ rd) : ∀ k : Nat, BB rd k (bafter rn rd k)
  | 0 => ⟨by show (0:Int) ≤ 0; omega, by show (0:Int) ≤ 0; omega, by show (0:Int) ≤ 0; omega, by show 0 ≤ rd; omega⟩
  | k + 1 => by
    have h := (bafter_bd rn rd hrd k).mono (show (k : Int) ≤ ((k + 1 : Nat) : Int) by omega)
    have e : ((k + 1 : Nat) : Int) = (k : Int) + 1 := by omega
    rw [e] at h ⊢
    exact h.inner (by omega) hrd rfl (by omega) (by omega)

theorem bstep_t {rn rd den num a b c : Int} (h : b = 0 ∨ far rn rd den num * b < c * den) : bstep rn rd den num ⟨a, b, c⟩ = ⟨num, den, far rn rd den num⟩ := by
  have : bwins rn rd den num ⟨a, b, c⟩ = true := by simp only [bwins, Bool.or_eq_true, decide_eq_true_eq]; exact h
  simp [bstep, this]
theorem bstep_f {rn rd den num a b c : Int} (h : b ≠ 0) (h' : c * den ≤ far rn rd den num * b) : bstep rn rd den num ⟨a, b, c⟩ = ⟨a, b, c⟩ := by
  have : bwins rn rd den num ⟨a, b, c⟩ = false := by simp [bwins]; exact ⟨h, h'⟩
  simp [bstep, this]

/-- The reference's search: a better one is nearer. -/
structure CS where
  n : Int
  d : Int
def nearB (pn pd qn qd rn rd : Int) : Bool := decide (((pn * rd - rn * pd).natAbs : Int) * qd < ((qn * rd - rn * qd).natAbs : Int) * pd)
def cstep (rn rd den num : Int) (s : CS) : CS := if nearB num den s.n s.d rn rd then ⟨num, den⟩ else s
def cinner (rn rd den low j : Int) (s : CS) : CS :=
  if j = 0 then s else if j = 1 then cstep rn rd den low s else cstep rn rd den (low + 1) (cstep rn rd den low s)
theorem cinner_succ (rn rd den low j : Int) (s : CS) (h0 : 0 ≤ j) (h1 : j ≤ 1) : cinner rn rd den low (j + 1) s = cstep rn rd den (low + j) (cinner rn rd den low j s) := by
  have : j = 0 ∨ j = 1 := by omega
  rcases this with rfl | rfl
  · simp [cinner]
  · simp [cinner]
def cafter (rn rd : Int) : Nat → CS
  | 0 => ⟨rn / rd, 1⟩
  | k + 1 => cinner rn rd (k + 1) (rn * (k + 1) / rd) 2 (cafter rn rd k)
theorem cstep_t {rn rd den num a b : Int} (h : nearB num den a b rn rd = true) : cstep rn rd den num ⟨a, b⟩ = ⟨num, den⟩ := by simp [cstep, h]
theorem cstep_f {rn rd den num a b : Int} (h : nearB num den a b rn rd = false) : cstep rn rd den num ⟨a, b⟩ = ⟨a, b⟩ := by simp [cstep, h]
/-- Bounds of a candidate that stands: near, its Den among those tried. -/
structure CB (rn rd k : Int) (s : CS) : Prop where
  d0 : 1 ≤ s.d
  d1 : s.d ≤ k
  f0 : s.n * rd - rn * s.d ≤ rd
  f1 : -rd ≤ s.n * rd - rn * s.d
theorem CB.mono {rn rd k k' : Int} {s : CS} (h : CB rn rd k s) (hk : k ≤ k') : CB rn rd k' s := ⟨h.d0, by have := h.d1; omega, h.f0, h.f1⟩
theorem CB.step {rn rd den num : Int} {s : CS} (h : CB rn rd den s) (hd : 1 ≤ den) (h0 : num * rd - rn * den ≤ rd) (h1 : -rd ≤ num * rd - rn * den) : CB rn rd den (cstep rn rd den num s) := by
  unfold cstep; split
  · exact ⟨hd, by show den ≤ den; omega, h0, h1⟩
  · exact h
theorem CB.inner {rn rd den low j : Int} {s : CS} (h : CB rn rd den s) (hd : 1 ≤ den) (hrd : 1 ≤ rd) (hlow : low = rn * den / rd) (h0 : 0 ≤ j) (h1 : j ≤ 2) : CB rn rd den (cinner rn rd den low j s) := by
  have c0 := @cand_bd rn rd den low 0 hrd hlow (by omega) (by omega)
  have c1 := @cand_bd rn rd den low 1 hrd hlow (by omega) (by omega)
  rw [Int.add_zero] at c0
  have : j = 0 ∨ j = 1 ∨ j = 2 := by omega
  rcases this with rfl | rfl | rfl
  · exact h
  · exact h.step hd (by omega) (by omega)
  · exact (h.step hd (by omega) (by omega)).step hd (by omega) (by omega)
theorem cafter_bd (rn rd : Int) (hrd : 1 ≤ rd) : ∀ k : Nat, CB rn rd (k + 1) (cafter rn rd k)
  | 0 => by
    have c0 := @cand_bd rn rd 1 (rn / rd) 0 hrd (by rw [Int.mul_one]) (by omega) (by omega)
    rw [Int.add_zero, Int.mul_one] at c0
    exact ⟨by show (1:Int) ≤ 1; omega, by show (1:Int) ≤ _; omega, by show rn / rd * rd - rn * 1 ≤ rd; omega, by show -rd ≤ rn / rd * rd - rn * 1; omega⟩
  | k + 1 => by
    have h := cafter_bd rn rd hrd k
    have e : ((k + 1 : Nat) : Int) = (k : Int) + 1 := by omega
    rw [e]
    exact (h.inner (by omega) hrd rfl (by omega) (by omega)).mono (by omega)

/-- What Best answers. -/
def bestV (n d most : Int) : RE :=
  if ratB n d then
    if btw most 1 1000000 then
      ⟨(bafter (redN n d) (redD n d) (min most (redD n d)).toNat).n, (bafter (redN n d) (redD n d) (min most (redD n d)).toNat).d, 0⟩
    else ⟨0, 0, 1⟩
  else ⟨0, 0, 10⟩
def rbestV (n d most : Int) : RE :=
  if ratB n d then
    if btw most 1 1000000 then ⟨redN (cafter n d most.toNat).n (cafter n d most.toNat).d, redD (cafter n d most.toNat).n (cafter n d most.toNat).d, 0⟩
    else ⟨0, 0, 1⟩
  else ⟨0, 0, 10⟩

end Go.Proofs.Ytfboiplpfkommaa
