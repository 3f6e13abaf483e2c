/- Walks: wider of the reference; the least and the greatest of what a list gives. -/
import Derived.Test.YtphcpphmoeiioaaKnW
namespace Go.Proofs.Ytphcpphmoeiioaa
open Go.RowKit Go.Maps

theorem mn2_run (ats : Array TypeId) (ty : TypeId) (x y : Int) : Builtin.min_ ats ty #[.int .i64 x, .int .i64 y] = pure (.int .i64 (min x y)) := by
  have e : (if y < x then y else x) = min x y := by split <;> omega
  simp [Builtin.min_, Builtin.min2, e]
theorem mx2_run (ats : Array TypeId) (ty : TypeId) (x y : Int) : Builtin.max_ ats ty #[.int .i64 x, .int .i64 y] = pure (.int .i64 (max x y)) := by
  have e : (if x < y then y else x) = max x y := by split <;> omega
  simp [Builtin.max_, Builtin.max2, e]
/-- A span made wider by a number. -/
def wdL (lo n : Int) (b : Bool) : Int := if b = true then n else min lo n
def wdH (hi n : Int) (b : Bool) : Int := if b = true then n else max hi n
section
attribute [local go_sem ↓] mn2_run mx2_run
set_option maxHeartbeats 1000000 in
theorem wider59 (lo hi n : Int) (b : Bool) (w : World) :
    Calls Try.prog 59 #[.agg #[.int .i64 lo, .int .i64 hi], .int .i64 n, .bool b] w fun e w' => e = .returned (.agg #[.int .i64 (wdL lo n b), .int .i64 (wdH hi n b)]) ∧ Below w.heap.size w w' := by
  cases b
  · go_enter Try.func59, Try.ntmps59
    go_wp2
    (try simp only [Exit.inBlock, Exit.then])
    refine bodyPost_gen fun W hW => ?_
    have o1 : Own W (w.heap.size + 1) [.int .i64 (min lo n), .int .i64 (max hi n)] := by rw [hW]; first | exact Own.new' _ _ (by simp) rfl | exact (((Own.new' (w := w.alloc _) _ _ (by simp) rfl).set 0 (by simp) _).set 1 (by simp) _)
    have hB : Below w.heap.size w W := by rw [hW]; (repeat' (first | (with_reducible exact Below.refl _ _) | (with_reducible assumption) | (with_reducible refine Below.drew ?_) | (with_reducible refine below_drewN ?_ _) | (with_reducible refine Below.setCell ?_ ?_ _) | (with_reducible refine Below.alloc ?_ ?_ _) | (refine Below.trans ?_ (Below.mono (by with_reducible assumption) ?_)) | omega | (exact Below.size (by with_reducible assumption)) | (simp; done) | (simp; omega)))
    refine bodyPost_ret (results_cell1 (B := w.heap.size + 1) (vs := [.int .i64 (min lo n), .int .i64 (max hi n)]) rfl rfl o1 (by kernel_rfl) (by kernel_rfl)) rfl ?_
    exact ⟨rfl, hB⟩
  · go_enter Try.func59, Try.ntmps59
    go_wp2
    (try simp only [Exit.inBlock, Exit.then])
    refine bodyPost_gen fun W hW => ?_
    have o1 : Own W (w.heap.size + 1) [.int .i64 n, .int .i64 n] := by rw [hW]; first | exact Own.new' _ _ (by simp) rfl | exact (((Own.new' (w := w.alloc _) _ _ (by simp) rfl).set 0 (by simp) _).set 1 (by simp) _)
    have hB : Below w.heap.size w W := by rw [hW]; (repeat' (first | (with_reducible exact Below.refl _ _) | (with_reducible assumption) | (with_reducible refine Below.drew ?_) | (with_reducible refine below_drewN ?_ _) | (with_reducible refine Below.setCell ?_ ?_ _) | (with_reducible refine Below.alloc ?_ ?_ _) | (refine Below.trans ?_ (Below.mono (by with_reducible assumption) ?_)) | omega | (exact Below.size (by with_reducible assumption)) | (simp; done) | (simp; omega)))
    refine bodyPost_ret (results_cell1 (B := w.heap.size + 1) (vs := [.int .i64 n, .int .i64 n]) rfl rfl o1 (by kernel_rfl) (by kernel_rfl)) rfl ?_
    exact ⟨rfl, hB⟩
end
/-- What a span holds behind k rows of a list: 0 to 0, or the least and the greatest number of theirs. -/
def SpK (g : List Int → Int) (ls : List (List Int)) (k : Nat) (lo hi : Int) : Prop := (k = 0 ∧ lo = 0 ∧ hi = 0) ∨ (0 < k ∧ IsSp (fun s => ∃ l ∈ ls.take k, g l = s) lo hi)
theorem SpK.zero (g : List Int → Int) (ls : List (List Int)) : SpK g ls 0 0 0 := Or.inl ⟨rfl, rfl, rfl⟩
theorem SpK.next {g : List Int → Int} {ls : List (List Int)} {k : Nat} {lo hi : Int} (h : SpK g ls k lo hi) {l : List Int} (hl : ls[k]? = some l) : SpK g ls (k + 1) (wdL lo (g l) (decide (k = 0))) (wdH hi (g l) (decide (k = 0))) := by
  have e : ls.take (k + 1) = ls.take k ++ [l] := take_snoc hl
  refine Or.inr ⟨by omega, ?_⟩
  rw [e]
  rcases h with ⟨rfl, _, _⟩ | ⟨h0, h1, h2, h3⟩
  · refine ⟨⟨l, by simp, rfl⟩, ⟨l, by simp, rfl⟩, fun s ⟨m, hm, hs⟩ => ?_⟩
    simp at hm
    subst hm
    subst hs
    simp [wdL, wdH]
  · have hk : decide (k = 0) = false := decide_eq_false (by omega)
    rw [hk]
    have ha : wdL lo (g l) false = min lo (g l) := rfl
    have hb : wdH hi (g l) false = max hi (g l) := rfl
    rw [ha, hb]
    obtain ⟨m1, j1, j2⟩ := h1
    obtain ⟨m2, j3, j4⟩ := h2
    refine ⟨?_, ?_, fun s ⟨m, hm, hs⟩ => ?_⟩
    · by_cases q : lo ≤ g l
      · exact ⟨m1, List.mem_append_left _ j1, by omega⟩
      · exact ⟨l, List.mem_append_right _ (by simp), by omega⟩
    · by_cases q : g l ≤ hi
      · exact ⟨m2, List.mem_append_left _ j3, by omega⟩
      · exact ⟨l, List.mem_append_right _ (by simp), by omega⟩
    · rcases List.mem_append.1 hm with hm | hm
      · have := h3 s ⟨m, hm, hs⟩; omega
      · rw [List.mem_singleton.1 hm] at hs; omega
theorem SpK.all {g : List Int → Int} {ls : List (List Int)} {lo hi : Int} (h : SpK g ls ls.length lo hi) : (ls = [] ∧ lo = 0 ∧ hi = 0) ∨ (ls ≠ [] ∧ IsSp (fun s => ∃ l ∈ ls, g l = s) lo hi) := by
  rcases h with ⟨h0, h1, h2⟩ | ⟨h0, h1⟩
  · exact Or.inl ⟨List.eq_nil_of_length_eq_zero h0, h1, h2⟩
  · exact Or.inr ⟨fun e => by rw [e] at h0; exact absurd h0 (by simp), by rwa [List.take_length] at h1⟩
theorem SpK.bd {g : List Int → Int} {ls : List (List Int)} {k : Nat} {lo hi B : Int} (h : SpK g ls k lo hi) (h0 : 0 ≤ B) (hb : ∀ l ∈ ls, -B ≤ g l ∧ g l ≤ B) : -B ≤ lo ∧ lo ≤ B ∧ -B ≤ hi ∧ hi ≤ B := by
  rcases h with ⟨_, rfl, rfl⟩ | ⟨_, ⟨m1, j1, rfl⟩, ⟨m2, j2, rfl⟩, _⟩
  · omega
  · have := hb m1 (List.mem_of_mem_take j1)
    have := hb m2 (List.mem_of_mem_take j2)
    omega
end Go.Proofs.Ytphcpphmoeiioaa
