/- Plain mathematics: wider openings; the walk from bend to bend. -/
import Derived.Test.YtibkgnnpmidgfaaDoorDd
namespace Go.Proofs.YtibkgnnpmidgfaaDoor

theorem reachB_comm (a b : Pt) (o : Int) : reachB a b o = reachB b a o := by
  unfold reachB
  have h1 : (b.1 - a.1) * (b.1 - a.1) = (a.1 - b.1) * (a.1 - b.1) := by rw [← Int.neg_mul_neg, Int.neg_sub]
  have h2 : (b.2 - a.2) * (b.2 - a.2) = (a.2 - b.2) * (a.2 - b.2) := by rw [← Int.neg_mul_neg, Int.neg_sub]
  rw [h1, h2]
theorem reachB_wider {a b : Pt} {o p : Int} (h : reachB a b o = true) (h0 : 0 ≤ o) (h1 : o ≤ p) : reachB a b p = true := by
  unfold reachB at *
  have h2 := of_decide_eq_true h
  have h3 : o * o ≤ p * p := Int.mul_le_mul h1 h1 h0 (by omega)
  exact decide_eq_true (by omega)
theorem walkB_wider {B : List Pt} {o p : Int} {f : Nat} (h0 : 0 ≤ o) (h1 : o ≤ p) : ∀ {n t : Nat}, walkB B o f n t = true → walkB B p f n t = true
  | 0, _, h => h
  | n + 1, t, h => by
    simp only [walkB, List.any_eq_true, List.mem_range, Bool.and_eq_true, decide_eq_true_eq] at h ⊢
    obtain ⟨b, hb, ⟨hf, hr⟩, hw⟩ := h
    exact ⟨b, hb, ⟨hf, reachB_wider hr h0 h1⟩, walkB_wider h0 h1 hw⟩
theorem bitsL_sorted (m : Nat) : (bitsL m).Pairwise (· < ·) := by
  unfold bitsL
  rw [List.pairwise_map]
  refine List.Pairwise.imp (fun {a b} h => ?_) (List.Pairwise.filter _ List.pairwise_lt_range)
  exact Int.ofNat_lt.2 h
theorem bit_lt13 {B : List Pt} {o : Int} {f t k : Nat} (ht : t < 12) (h : (mk B o f t).testBit k = true) : k < 13 := by
  rw [mk_bit] at h
  have := walkB_ge h
  omega
theorem bitsL_nil {B : List Pt} {o : Int} {f t : Nat} (ht : t < 12) : bitsL (mk B o f t) = [] ↔ mk B o f t = 0 := by
  constructor
  · intro h
    refine Nat.eq_of_testBit_eq fun k => ?_
    rw [Nat.zero_testBit]
    refine Bool.eq_false_iff.2 fun h' => ?_
    have : (k : Int) ∈ bitsL (mk B o f t) := mem_bitsL.2 ⟨k, bit_lt13 ht h', h', rfl⟩
    rw [h] at this; cases this
  · intro h
    rw [h]; decide
theorem bits_sub {B : List Pt} {o p : Int} {f t : Nat} (h0 : 0 ≤ o) (h1 : o ≤ p) : ∀ x ∈ bitsL (mk B o f t), x ∈ bitsL (mk B p f t) := by
  intro x hx
  obtain ⟨k, h2, h3, rfl⟩ := mem_bitsL.1 hx
  rw [mk_bit] at h3
  exact mem_bitsL.2 ⟨k, h2, by rw [mk_bit]; exact walkB_wider h0 h1 h3, rfl⟩
theorem bits_more {B : List Pt} {o p : Int} {f t : Nat} (h0 : 0 ≤ o) (h1 : o ≤ p) : (bitsL (mk B o f t)).length ≤ (bitsL (mk B p f t)).length := by
  unfold bitsL
  rw [List.length_map, List.length_map, ← List.countP_eq_length_filter, ← List.countP_eq_length_filter]
  refine List.countP_mono_left fun k _ h => ?_
  rw [mk_bit] at h ⊢
  exact walkB_wider h0 h1 h
theorem head_le {l : List Int} (hp : l.Pairwise (· < ·)) {a x : Int} (h0 : l[0]? = some a) (hx : x ∈ l) : a ≤ x := by
  match l, hp, h0, hx with
  | b :: r, hp, h0, hx =>
    simp at h0
    subst h0
    rcases List.mem_cons.1 hx with rfl | h
    · omega
    · exact Int.le_of_lt ((List.pairwise_cons.1 hp).1 _ h)
theorem last_eq {l : List Int} (hp : l.Pairwise (· < ·)) {a x : Int} (h0 : l[l.length - 1]? = some a) (hx : x ∈ l) (hm : a ≤ x) : a = x := by
  obtain ⟨i, hi, rfl⟩ := List.getElem_of_mem hx
  obtain ⟨hl, rfl⟩ := List.getElem?_eq_some_iff.1 h0
  by_cases e : i = l.length - 1
  · subst e; rfl
  · have := List.pairwise_iff_getElem.1 hp i (l.length - 1) hi hl (by omega)
    omega
/-- The walk from bend to bend. -/
def runW (f n : Nat) : List Nat := List.range' f n
theorem runW_succ (f n : Nat) : runW f (n + 1) = runW f n ++ [f + n] := by unfold runW; rw [List.range'_concat]; simp
theorem runW_len (f n : Nat) : (runW f n).length = n := List.length_range' ..
theorem runW_at {f n i : Nat} (h : i < n) : (runW f n)[i]? = some (f + i) := by unfold runW; rw [List.getElem?_range' h]; simp
theorem runW_walk {B : List Pt} {o : Int} {f k : Nat} (h : okWalk B o (runW f (k + 1)) = true) : walkB B o f k (f + k) = true := by
  have key : ∀ n, n ≤ k → walkB B o f n (f + n) = true := by
    intro n
    induction n with
    | zero => intro _; simp [walkB]
    | succ n ih =>
      intro hn
      have h1 := ih (by omega)
      have h2 : stepB B o (runW f (k + 1)) n = true := by
        unfold okWalk at h
        exact List.all_eq_true.1 h n (List.mem_range.2 (by rw [runW_len]; omega))
      unfold stepB at h2
      rw [getD_of (runW_at (show n + 1 < k + 1 by omega)), getD_of (runW_at (show n < k + 1 by omega)), reachB_comm] at h2
      show walkB B o f (n + 1) (f + (n + 1)) = true
      simp only [walkB, List.any_eq_true, List.mem_range, Bool.and_eq_true, decide_eq_true_eq]
      exact ⟨f + n, by omega, ⟨by omega, h2⟩, h1⟩
  exact key k (Nat.le_refl _)
/-- A walk from bend to bend: the greatest number of steps. -/
theorem last_run {B : List Pt} {o : Int} {f t : Nat} {a : Int} (hft : f ≤ t) (ht : t < 12) (h : okWalk B o (runW f (t - f + 1)) = true) (ha : (bitsL (mk B o f t))[(bitsL (mk B o f t)).length - 1]? = some a) : a = t - f := by
  have h1 := runW_walk h
  rw [show f + (t - f) = t by omega] at h1
  have hm : ((t - f : Nat) : Int) ∈ bitsL (mk B o f t) := mem_bitsL.2 ⟨t - f, by omega, by rw [mk_bit]; exact h1, rfl⟩
  have h2 := last_eq (bitsL_sorted _) ha hm (by
    obtain ⟨k, _, h3, rfl⟩ := mem_bitsL.1 (List.mem_of_getElem? ha)
    rw [mk_bit] at h3
    have := walkB_ge h3
    omega)
  omega
theorem run_some {B : List Pt} {o : Int} {f t : Nat} (hft : f ≤ t) (h : okWalk B o (runW f (t - f + 1)) = true) : mk B o f t ≠ 0 := by
  intro e
  have h1 := runW_walk h
  rw [show f + (t - f) = t by omega, ← mk_bit, e, Nat.zero_testBit] at h1
  cases h1

end Go.Proofs.YtibkgnnpmidgfaaDoor
