/- Plain: all rows of heights, as the reference lists them. -/
import Derived.Test.YtphcpphmoeiioaaRf
namespace Go.Proofs.Ytphcpphmoeiioaa
open Go.RowKit

section
variable {N : Nat} {sl rl rh : Int}
open Classical in
/-- All rows that begin with fs; n: enough rounds. -/
noncomputable def allF (N : Nat) (sl rl rh : Int) : Nat → List Int → List (List Int)
  | 0, _ => []
  | n + 1, fs => if SoL sl rl rh fs then (if fs.length = N + 1 then [fs] else (List.range (rh - rl + 1).toNat).flatMap fun j : Nat => allF N sl rl rh n (fs ++ [rl + (j : Int)])) else []
noncomputable def allJ (N : Nat) (sl rl rh : Int) (n : Nat) (fs : List Int) (j : Nat) : List (List Int) := (List.range j).flatMap fun j : Nat => allF N sl rl rh n (fs ++ [rl + (j : Int)])
theorem allJ_zero (n : Nat) (fs : List Int) : allJ N sl rl rh n fs 0 = [] := rfl
theorem allJ_succ (n : Nat) (fs : List Int) (j : Nat) : allJ N sl rl rh n fs (j + 1) = allJ N sl rl rh n fs j ++ allF N sl rl rh n (fs ++ [rl + (j : Int)]) := by
  unfold allJ
  rw [List.range_succ, List.flatMap_append]
  simp
theorem allF_no {n : Nat} {fs : List Int} (h : ¬ SoL sl rl rh fs) : allF N sl rl rh n fs = [] := by
  cases n with
  | zero => rfl
  | succ n => rw [allF, if_neg h]
theorem allF_at {n : Nat} {fs : List Int} (h : SoL sl rl rh fs) (hl : fs.length = N + 1) : allF N sl rl rh (n + 1) fs = [fs] := by rw [allF, if_pos h, if_pos hl]
theorem allF_on {n : Nat} {fs : List Int} (h : SoL sl rl rh fs) (hl : fs.length ≠ N + 1) : allF N sl rl rh (n + 1) fs = allJ N sl rl rh n fs (rh - rl + 1).toNat := by rw [allF, if_pos h, if_neg hl]; rfl
theorem fnL_app {fs s : List Int} {i : Nat} (h : i < fs.length) : fnL (fs ++ s) i = fnL fs i := by
  have h1 : (fs ++ s)[i]? = some (fnL (fs ++ s) i) := fnL_at (by rw [List.length_append]; omega)
  rw [List.getElem?_append_left h, fnL_at h] at h1
  exact (Option.some.inj h1).symm
theorem fnL_last (fs : List Int) (x : Int) : fnL (fs ++ [x]) fs.length = x := by
  have h1 : (fs ++ [x])[fs.length]? = some (fnL (fs ++ [x]) fs.length) := fnL_at (by simp)
  simp at h1
  exact h1.symm
theorem soL_pre {fs s : List Int} (h : SoL sl rl rh (fs ++ s)) : SoL sl rl rh fs :=
  ⟨fun i hi => by have := h.1 i (by rw [List.length_append]; omega); rwa [fnL_app hi] at this,
   fun i hi => by have := h.2 i (by rw [List.length_append]; omega); rwa [fnL_app hi, fnL_app (by omega)] at this⟩
/-- Just the rows that are so. -/
theorem mem_allF {l : List Int} : ∀ {n : Nat} {fs : List Int}, fs.length ≤ N + 1 → N + 1 - fs.length < n → (l ∈ allF N sl rl rh n fs ↔ (∃ s, l = fs ++ s) ∧ l.length = N + 1 ∧ SoL sl rl rh l)
  | 0, fs, _, h => by omega
  | n + 1, fs, h1, h2 => by
    by_cases hs : SoL sl rl rh fs
    · by_cases hl : fs.length = N + 1
      · rw [allF_at hs hl, List.mem_singleton]
        constructor
        · rintro rfl
          exact ⟨⟨[], by simp⟩, hl, hs⟩
        · rintro ⟨⟨s, rfl⟩, e, _⟩
          rw [List.length_append] at e
          have : s = [] := List.eq_nil_of_length_eq_zero (by omega)
          rw [this, List.append_nil]
      · rw [allF_on hs hl]
        unfold allJ
        rw [List.mem_flatMap]
        constructor
        · rintro ⟨j, _, h⟩
          obtain ⟨⟨s, e⟩, k1, k2⟩ := (mem_allF (n := n) (by rw [List.length_append, List.length_singleton]; omega) (by rw [List.length_append, List.length_singleton]; omega)).1 h
          exact ⟨⟨[rl + (j : Int)] ++ s, by rw [e, List.append_assoc]⟩, k1, k2⟩
        · rintro ⟨⟨s, rfl⟩, k1, k2⟩
          cases s with
          | nil => simp at k1; omega
          | cons x s =>
            have e : fs ++ x :: s = (fs ++ [x]) ++ s := by simp
            rw [e] at k1 k2 ⊢
            have hx : rl ≤ x ∧ x ≤ rh := by
              have := (soL_pre k2).1 fs.length (by simp)
              rwa [fnL_last] at this
            refine ⟨(x - rl).toNat, List.mem_range.2 (by omega), ?_⟩
            have hj : rl + (((x - rl).toNat : Nat) : Int) = x := by omega
            rw [hj]
            exact (mem_allF (n := n) (by rw [List.length_append, List.length_singleton]; omega) (by rw [List.length_append, List.length_singleton]; omega)).2 ⟨⟨s, rfl⟩, k1, k2⟩
    · rw [allF_no hs]
      constructor
      · intro h; cases h
      · rintro ⟨⟨s, rfl⟩, _, k⟩
        exact absurd (soL_pre k) hs
/-- A sum of numbers at most b, all but those of an interval of c zero. -/
theorem len_flat_le {α : Type} (g : Nat → List α) (b c lo : Nat) (hb : ∀ j, (g j).length ≤ b) (h0 : ∀ j, j < lo ∨ lo + c ≤ j → g j = []) : ∀ m, ((List.range m).flatMap g).length ≤ min (m - lo) c * b
  | 0 => by simp
  | m + 1 => by
    have ih := len_flat_le g b c lo hb h0 m
    rw [List.range_succ, List.flatMap_append, List.length_append]
    have e : ([m].flatMap g).length = (g m).length := by simp
    rw [e]
    by_cases h : m < lo ∨ lo + c ≤ m
    · rw [h0 m h, List.length_nil, Nat.add_zero]
      exact Nat.le_trans ih (Nat.mul_le_mul_right b (by omega))
    · have := hb m
      have e2 : min (m + 1 - lo) c = min (m - lo) c + 1 := by omega
      rw [e2, Nat.add_mul, Nat.one_mul]
      omega
theorem allF_long : ∀ {n : Nat} {fs : List Int}, N + 1 < fs.length → allF N sl rl rh n fs = []
  | 0, _, _ => rfl
  | n + 1, fs, h => by
    by_cases hs : SoL sl rl rh fs
    · rw [allF_on hs (by omega)]
      unfold allJ
      rw [List.flatMap_eq_nil_iff]
      intro j _
      exact allF_long (by rw [List.length_append]; omega)
    · exact allF_no hs
/-- How many choices a height has. -/
def chN (sl rl rh : Int) : Nat := min (rh - rl + 1).toNat (2 * sl + 1).toNat
theorem allJ_len' (h0 : 0 ≤ sl) {n : Nat} (ih : ∀ fs : List Int, fs ≠ [] → (allF N sl rl rh n fs).length ≤ chN sl rl rh ^ (N + 1 - fs.length)) {fs : List Int} (hne : fs ≠ []) (hs : SoL sl rl rh fs) {j : Nat} (hj : j ≤ (rh - rl + 1).toNat) :
    (allJ N sl rl rh n fs j).length ≤ chN sl rl rh * chN sl rl rh ^ (N - fs.length) := by
  obtain ⟨q, hq⟩ : ∃ q, fs.length = q + 1 := ⟨fs.length - 1, by have := List.length_pos_iff.2 hne; omega⟩
  have hlast := hs.1 q (by omega)
  refine Nat.le_trans (len_flat_le (fun j : Nat => allF N sl rl rh n (fs ++ [rl + (j : Int)])) (chN sl rl rh ^ (N - fs.length)) (2 * sl + 1).toNat (fnL fs q - sl - rl).toNat (fun j => ?_) (fun j hj => ?_) j) (Nat.mul_le_mul_right _ ?_)
  · have := ih (fs ++ [rl + (j : Int)]) (by simp)
    rwa [List.length_append, List.length_singleton, show N + 1 - (fs.length + 1) = N - fs.length by omega] at this
  · refine allF_no fun h => ?_
    have k := h.2 q (by rw [List.length_append, List.length_singleton]; omega)
    rw [← hq, fnL_last, fnL_app (by omega)] at k
    omega
  · unfold chN; omega
/-- How many there can be. -/
theorem allF_len (h0 : 0 ≤ sl) : ∀ {n : Nat} {fs : List Int}, fs ≠ [] → (allF N sl rl rh n fs).length ≤ chN sl rl rh ^ (N + 1 - fs.length)
  | 0, fs, _ => Nat.zero_le _
  | n + 1, fs, hne => by
    by_cases hs : SoL sl rl rh fs
    · by_cases hl : fs.length = N + 1
      · rw [allF_at hs hl, hl, Nat.sub_self]
        simp
      · by_cases hl2 : fs.length < N + 1
        · rw [allF_on hs hl]
          have hM := allJ_len' h0 (fun fs h => allF_len h0 (n := n) h) hne hs (Nat.le_refl _)
          have e : N + 1 - fs.length = (N - fs.length) + 1 := by omega
          rw [e, Nat.pow_succ, Nat.mul_comm]
          exact hM
        · rw [allF_long (by omega)]
          exact Nat.zero_le _
    · rw [allF_no hs]; exact Nat.zero_le _
theorem pow_one_le {m a b : Nat} (h : 1 ≤ m) (k : a ≤ b) : m ^ a ≤ m ^ b := Nat.pow_le_pow_right h k
/-- No list of them is longer than what Far allows. -/
theorem allJ_bd (h0 : 0 ≤ sl) (h1 : rl ≤ rh) {n : Nat} {fs : List Int} (hs : SoL sl rl rh fs) {j : Nat} (hj : j ≤ (rh - rl + 1).toNat) : (allJ N sl rl rh n fs j).length ≤ (rh - rl + 1).toNat * chN sl rl rh ^ N := by
  have hm : 1 ≤ chN sl rl rh := by unfold chN; omega
  have hmw : chN sl rl rh ≤ (rh - rl + 1).toNat := by unfold chN; omega
  by_cases hne : fs = []
  · subst hne
    refine Nat.le_trans (len_flat_le (fun j : Nat => allF N sl rl rh n ([] ++ [rl + (j : Int)])) (chN sl rl rh ^ N) (rh - rl + 1).toNat 0 (fun j => ?_) (fun j hj => ?_) j) (Nat.mul_le_mul_right _ (by omega))
    · have := allF_len h0 (N := N) (rl := rl) (rh := rh) (n := n) (fs := [] ++ [rl + (j : Int)]) (by simp)
      simpa using this
    · refine allF_no fun h => ?_
      have := h.1 0 (by simp)
      have e : fnL ([] ++ [rl + (j : Int)]) 0 = rl + j := fnL_last [] _
      rw [e] at this
      omega
  · refine Nat.le_trans (allJ_len' h0 (fun fs h => allF_len h0 (n := n) h) hne hs hj) (Nat.mul_le_mul hmw (pow_one_le hm (by omega)))
theorem allF_bd (h0 : 0 ≤ sl) (h1 : rl ≤ rh) {n : Nat} {fs : List Int} : (allF N sl rl rh n fs).length ≤ (rh - rl + 1).toNat * chN sl rl rh ^ N := by
  have hm : 1 ≤ chN sl rl rh := by unfold chN; omega
  have hw : 1 ≤ (rh - rl + 1).toNat := by omega
  have hp : 1 ≤ chN sl rl rh ^ N := Nat.one_le_pow _ _ (by omega)
  cases n with
  | zero => exact Nat.zero_le _
  | succ n =>
    by_cases hs : SoL sl rl rh fs
    · by_cases hl : fs.length = N + 1
      · rw [allF_at hs hl]
        show 1 ≤ _
        exact Nat.mul_le_mul hw hp
      · rw [allF_on hs hl]
        exact allJ_bd h0 h1 hs (Nat.le_refl _)
    · rw [allF_no hs]; exact Nat.zero_le _
/-- What Far's number is, where it is small. -/
theorem farN_pow {wide m : Int} (hw : 1 ≤ wide) (hm : 1 ≤ m) : ∀ i : Nat, farN wide m i ≤ 1500 → farN wide m i = wide * m ^ i
  | 0, _ => by show wide = wide * m ^ 0; simp
  | i + 1, h => by
    have h' : min 100000 (farN wide m i * m) ≤ 1500 := h
    have e : min 100000 (farN wide m i * m) = farN wide m i * m := by omega
    have hle : farN wide m i * m ≤ 1500 := by omega
    have hpos : 0 ≤ farN wide m i := by
      cases i with
      | zero => show 0 ≤ wide; omega
      | succ i => show 0 ≤ min 100000 (farN wide m i * m); have : 0 ≤ farN wide m i * m := Int.mul_nonneg (farN_nn hw hm i) (by omega); omega
    have h2 : farN wide m i ≤ farN wide m i * m := by
      have := Int.mul_le_mul_of_nonneg_left hm hpos
      omega
    show min 100000 (farN wide m i * m) = wide * m ^ (i + 1)
    rw [e, farN_pow hw hm i (by omega), Int.pow_succ, Int.mul_assoc]
where
  farN_nn {wide m : Int} (hw : 1 ≤ wide) (hm : 1 ≤ m) : ∀ i : Nat, 0 ≤ farN wide m i
    | 0 => by show 0 ≤ wide; omega
    | i + 1 => by
      have := Int.mul_nonneg (farN_nn hw hm i) (show 0 ≤ m by omega)
      show 0 ≤ min 100000 (farN wide m i * m)
      omega
end
/-- A curve that is not far has at most 1500 rows. -/
theorem far_rows {L sl rl rh wg : Int} {ks : List Kn} (hc : chkV L sl rl rh wg ks = true) (hf : farB L sl rl rh wg ks = false) : (rh - rl + 1).toNat * chN sl rl rh ^ L.toNat ≤ 1500 := by
  have hV := cvV_of hc
  have h1 := hV.r0
  have h2 := hV.s1
  unfold farB at hf
  rw [hc] at hf
  simp only [Bool.true_and, Bool.or_eq_false_iff, decide_eq_false_iff_not] at hf
  have h3 : farN (rh - rl + 1) (min (rh - rl + 1) (2 * sl + 1)) L.toNat ≤ 1500 := by omega
  have h4 := farN_pow (by omega) (by omega) L.toNat h3
  rw [h4] at h3
  have e : ((((rh - rl + 1).toNat * chN sl rl rh ^ L.toNat : Nat)) : Int) = (rh - rl + 1) * (min (rh - rl + 1) (2 * sl + 1)) ^ L.toNat := by
    have e1 : (((rh - rl + 1).toNat : Nat) : Int) = rh - rl + 1 := by omega
    have e2 : ((chN sl rl rh : Nat) : Int) = min (rh - rl + 1) (2 * sl + 1) := by unfold chN; omega
    push_cast
    rw [e2]
    have e3 : max (rh - rl + 1) 0 = rh - rl + 1 := by omega
    first | rw [e3] | rw [e1]
  omega
end Go.Proofs.Ytphcpphmoeiioaa
