/- Walks: Example, sameInts, works of the program. -/
import Derived.Test.YtibkgnnpmidgfaaDoorCu
namespace Go.Proofs.YtibkgnnpmidgfaaDoor
open Go.RowKit Go.Maps

def exB : List Pt := [(0, 0), (3, 4), (6, 0), (9, 4), (12, 0)]
def exD : List Pt := [(5, 7), (10, 13)]
def exR : List Rep := [⟨0, 0, 4, 4⟩, ⟨0, 0, 4, 2⟩, ⟨1, 0, 4, 2⟩]
theorem flat_get {sz : Nat} : ∀ {rows : List (List Value)}, (∀ r ∈ rows, r.length = sz) → ∀ {j : Nat} {r : List Value}, rows[j]? = some r → ∀ {c : Nat} {v : Value}, r[c]? = some v → rows.flatten[j * sz + c]? = some v
  | [], _, j, r, h, _, _, _ => by simp at h
  | r0 :: rows, hl, 0, r, h, c, v, hc => by
    simp at h; subst h
    obtain ⟨hlt, _⟩ := List.getElem?_eq_some_iff.1 hc
    rw [List.flatten_cons, Nat.zero_mul, Nat.zero_add, List.getElem?_append_left hlt]; exact hc
  | r0 :: rows, hl, j + 1, r, h, c, v, hc => by
    have e0 : r0.length = sz := hl r0 (List.mem_cons_self ..)
    rw [List.flatten_cons, List.getElem?_append_right (by rw [e0, Nat.succ_mul]; omega), e0, show (j + 1) * sz + c - sz = j * sz + c by rw [Nat.succ_mul]; omega]
    exact flat_get (fun r hr => hl r (List.mem_cons_of_mem _ hr)) (by simpa using h) hc
theorem Own.rd {sz : Nat} {w : World} {b : Nat} {vs : List Value} {rows : List (List Value)} (h : Own w b vs) (e : rows.flatten = vs) (hl : ∀ r ∈ rows, r.length = sz) : Rd sz w (some ⟨b, 0, none⟩) rows :=
  Rd.mk' h.lt fun j r hj c v hv => by rw [Nat.zero_add, h.c, ← e]; exact flat_get hl hj hv
set_option maxRecDepth 100000 in
set_option maxHeartbeats 4000000 in
theorem example54 (w : World) :
    Calls Tryd.prog 54 #[] w fun e w' => ∃ (b0 b1 b2 : Nat), e = .returned (.agg #[.slice (some ⟨b0, 0, none⟩) 5 5, .slice (some ⟨b1, 0, none⟩) 2 2, .slice (some ⟨b2, 0, none⟩) 3 3, .int .i64 0]) ∧ RdC w' (some ⟨b0, 0, none⟩) (some ⟨b1, 0, none⟩) (some ⟨b2, 0, none⟩) 5 2 3 exB exD exR ∧ Below w.heap.size w w' := by
  go_enter Tryd.func54, Tryd.ntmps54
  go_wp2
  have oB := (((((Below.refl w.heap.size w).alloc (Nat.le_refl _) (Obj.cells #[.slice (some ⟨w.heap.size + 1, 0, none⟩) 5 5, .slice (some ⟨w.heap.size + 1 + 1, 0, none⟩) 2 2, .slice (some ⟨w.heap.size + 1 + 1 + 1, 0, none⟩) 3 3, .int .i64 0] 26)).alloc (by simp) (Obj.cells #[.int .i64 0, .int .i64 0, .int .i64 3, .int .i64 4, .int .i64 6, .int .i64 0, .int .i64 9, .int .i64 4, .int .i64 12, .int .i64 0] 40)).alloc (by simp; omega) (Obj.cells #[.int .i64 5, .int .i64 7, .int .i64 10, .int .i64 13] 33)).alloc (by simp; omega) (Obj.cells #[.int .i64 0, .int .i64 0, .int .i64 4, .int .i64 4, .int .i64 0, .int .i64 0, .int .i64 4, .int .i64 2, .int .i64 1, .int .i64 0, .int .i64 4, .int .i64 2] 58))
  go_returns
  refine ⟨w.heap.size + 1, w.heap.size + 2, w.heap.size + 3, rfl, ⟨rfl, rfl, rfl, by omega, by omega, by omega, ?_, ?_, ?_, by decide⟩, oB⟩
  · refine Own.rd (vs := [.int .i64 0, .int .i64 0, .int .i64 3, .int .i64 4, .int .i64 6, .int .i64 0, .int .i64 9, .int .i64 4, .int .i64 12, .int .i64 0]) ?_ rfl (by simp [exB, prow])
    exact ((Own.new' _ _ (by simp) rfl).alloc _).alloc _
  · refine Own.rd (vs := [.int .i64 5, .int .i64 7, .int .i64 10, .int .i64 13]) ?_ rfl (by simp [exD, prow])
    exact (Own.new' _ _ (by simp) rfl).alloc _
  · refine Own.rd (vs := [.int .i64 0, .int .i64 0, .int .i64 4, .int .i64 4, .int .i64 0, .int .i64 0, .int .i64 4, .int .i64 2, .int .i64 1, .int .i64 0, .int .i64 4, .int .i64 2]) ?_ rfl (by simp [exR, rrow])
    exact Own.new' _ _ (by simp) rfl

set_option maxRecDepth 100000 in
set_option maxHeartbeats 4000000 in
theorem sameInts31m (A A' : Option Addr) (n n' c c' : Nat) (xs ys : List Int) (w : World) (hx : RdI w A xs) (hy : RdI w A' ys) (hn : n = xs.length) (hn' : n' = ys.length) (hl : n ≤ 140737488355328) (hl' : n' ≤ 140737488355328) :
    Calls Tryd.prog 31 #[.slice A n c, .slice A' n' c'] w fun e w' => ∃ m, e = .returned (.bool (decide (xs = ys))) ∧ w' = w.drewN m := by
  have HX := Lib.hid hx
  have HY := Lib.hid hy
  go_enter Tryd.func31, Tryd.ntmps31
  by_cases he : n = n'
  · subst he
    go_wp2
    go_loopg [5] n (fun K i wr => ∃ (k m : Nat), K + k = n ∧ i = .int .i64 k ∧ Hid (wr = w.drewN m) ∧ xs.take k = ys.take k)
    case atStart => exact ⟨0, 0, rfl, rfl, rfl, rfl⟩
    case round =>
      obtain ⟨k, m, hk, rfl, hw, ht⟩ := hrel
      by_cases hlt : k < n
      · obtain ⟨x, hx0⟩ : ∃ x, xs[k]? = some x := ⟨xs[k]'(by omega), by simp⟩
        obtain ⟨y, hy0⟩ : ∃ y, ys[k]? = some y := ⟨ys[k]'(by omega), by simp⟩
        obtain ⟨b, o, rfl, hb, hc⟩ := HX.out.elem hx0
        obtain ⟨b', o', rfl, hb', hc'⟩ := HY.out.elem hy0
        have g1 : wr.cell? ⟨b, o + k, none⟩ = some (.int .i64 x) := by rw [hw.out]; exact hc
        have g2 : wr.cell? ⟨b', o' + k, none⟩ = some (.int .i64 y) := by rw [hw.out]; exact hc'
        by_cases hxy : x = y
        · subst hxy
          have hneq : (x != x) = false := by simp
          clear hc hc'
          go_wp2
          go_region
          go_wp2
          go_roundg (n - (k + 1))
          case measure => omega
          case rel => exact ⟨k + 1, m + 1, by omega, by go_num, by show _ = _; rw [hw.out]; rfl, by rw [take_snoc hx0, take_snoc hy0, ht]⟩
        · have hneq : (x != y) = true := by simpa using hxy
          have hd : Hid (decide (xs = ys) = false) := decide_eq_false fun e => hxy (by rw [e, hy0] at hx0; cases hx0; rfl)
          clear hc hc'
          go_wp2
          go_region
          go_wp2
          go_ret
          exact ⟨m + 1, ret_bool hd.out.symm, by rw [hw.out]; rfl⟩
      · have hd : decide (xs = ys) = true := decide_eq_true (by rw [List.take_of_length_le (by omega), List.take_of_length_le (by omega)] at ht; exact ht)
        go_wp2
        go_ret
        exact ⟨m, ret_bool hd.symm, hw.out⟩
  · have hd : decide (xs = ys) = false := decide_eq_false fun e => he (by rw [hn, hn', e])
    have hne : ((n : Int) != (n' : Int)) = true := by simpa using (by omega : ¬ (n : Int) = n')
    go_wp2
    go_ret
    exact ⟨0, ret_bool hd.symm, rfl⟩

theorem sameInts31 (A A' : Option Addr) (n n' c c' : Nat) (xs ys : List Int) (w : World) (hx : RdI w A xs) (hy : RdI w A' ys) (hn : n = xs.length) (hn' : n' = ys.length) (hl : n ≤ 140737488355328) (hl' : n' ≤ 140737488355328) :
    Calls Tryd.prog 31 #[.slice A n c, .slice A' n' c'] w fun e w' => e = .returned (.bool (decide (xs = ys))) ∧ Below w.heap.size w w' := by
  refine (sameInts31m A A' n n' c c' xs ys w hx hy hn hn' hl hl').mono ?_
  rintro e w' ⟨m, rfl, rfl⟩
  exact ⟨rfl, below_drewN (Below.refl _ _) m⟩

end Go.Proofs.YtibkgnnpmidgfaaDoor
