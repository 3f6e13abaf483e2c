/- Walks: SameInts, Example; plain facts of the Example. -/
import Derived.Test.YtphcpphmoeiioaaWR
namespace Go.Proofs.Ytphcpphmoeiioaa
open Go.RowKit Go.Maps

theorem flat_get {sz : Nat} : ∀ {rows : List (List Value)}, (∀ r ∈ rows, r.length = sz) → ∀ {j : Nat} {r : List Value}, rows[j]? = some r → ∀ {c : Nat} {v : Value}, r[c]? = some v → rows.flatten[j * sz + c]? = some v
  | [], _, j, r, h, _, _, _ => by simp at h
  | r0 :: rows, hl, 0, r, h, c, v, hc => by
    simp at h; subst h
    obtain ⟨hlt, _⟩ := List.getElem?_eq_some_iff.1 hc
    rw [List.flatten_cons, Nat.zero_mul, Nat.zero_add, List.getElem?_append_left hlt]; exact hc
  | r0 :: rows, hl, j + 1, r, h, c, v, hc => by
    have e0 : r0.length = sz := hl r0 (List.mem_cons_self ..)
    rw [List.flatten_cons, List.getElem?_append_right (by rw [e0, Nat.succ_mul]; omega), e0, show (j + 1) * sz + c - sz = j * sz + c by rw [Nat.succ_mul]; omega]
    exact flat_get (fun r hr => hl r (List.mem_cons_of_mem _ hr)) (by simpa using h) hc
theorem Own.rd {sz : Nat} {w : World} {b : Nat} {vs : List Value} {rows : List (List Value)} (h : Own w b vs) (e : rows.flatten = vs) (hl : ∀ r ∈ rows, r.length = sz) : Rd sz w (some ⟨b, 0, none⟩) rows :=
  Rd.mk' h.lt fun j r hj c v hv => by rw [Nat.zero_add, h.c, ← e]; exact flat_get hl hj hv
set_option maxRecDepth 100000 in
set_option maxHeartbeats 4000000 in
theorem sameInts30m (A A' : Option Addr) (n n' c c' : Nat) (xs ys : List Int) (w : World) (hx : RdI w A xs) (hy : RdI w A' ys) (hn : n = xs.length) (hn' : n' = ys.length) (hl : n ≤ 140737488355328) (hl' : n' ≤ 140737488355328) :
    Calls Try.prog 30 #[.slice A n c, .slice A' n' c'] w fun e w' => ∃ m, e = .returned (.bool (decide (xs = ys))) ∧ w' = w.drewN m := by
  have HX := Lib.hid hx
  have HY := Lib.hid hy
  go_enter Try.func30, Try.ntmps30
  by_cases he : n = n'
  · subst he
    go_wp2
    go_loopg [5] n (fun K i wr => ∃ (k m : Nat), K + k = n ∧ i = .int .i64 k ∧ Hid (wr = w.drewN m) ∧ xs.take k = ys.take k)
    case atStart => exact ⟨0, 0, rfl, rfl, rfl, rfl⟩
    case round =>
      obtain ⟨k, m, hk, rfl, hw, ht⟩ := hrel
      by_cases hlt : k < n
      · obtain ⟨x, hx0⟩ : ∃ x, xs[k]? = some x := ⟨xs[k]'(by omega), by simp⟩
        obtain ⟨y, hy0⟩ : ∃ y, ys[k]? = some y := ⟨ys[k]'(by omega), by simp⟩
        obtain ⟨b, o, rfl, hb, hc⟩ := HX.out.elem hx0
        obtain ⟨b', o', rfl, hb', hc'⟩ := HY.out.elem hy0
        have g1 : wr.cell? ⟨b, o + k, none⟩ = some (.int .i64 x) := by rw [hw.out]; exact hc
        have g2 : wr.cell? ⟨b', o' + k, none⟩ = some (.int .i64 y) := by rw [hw.out]; exact hc'
        by_cases hxy : x = y
        · subst hxy
          have hneq : (x != x) = false := by simp
          clear hc hc'
          go_wp2
          go_region
          go_wp2
          go_roundg (n - (k + 1))
          case measure => omega
          case rel => exact ⟨k + 1, m + 1, by omega, by go_num, by show _ = _; rw [hw.out]; rfl, by rw [take_snoc hx0, take_snoc hy0, ht]⟩
        · have hneq : (x != y) = true := by simpa using hxy
          have hd : Hid (decide (xs = ys) = false) := decide_eq_false fun e => hxy (by rw [e, hy0] at hx0; cases hx0; rfl)
          clear hc hc'
          go_wp2
          go_region
          go_wp2
          go_ret
          exact ⟨m + 1, ret_bool hd.out.symm, by rw [hw.out]; rfl⟩
      · have hd : decide (xs = ys) = true := decide_eq_true (by rw [List.take_of_length_le (by omega), List.take_of_length_le (by omega)] at ht; exact ht)
        go_wp2
        go_ret
        exact ⟨m, ret_bool hd.symm, hw.out⟩
  · have hd : decide (xs = ys) = false := decide_eq_false fun e => he (by rw [hn, hn', e])
    have hne : ((n : Int) != (n' : Int)) = true := by simpa using (by omega : ¬ (n : Int) = n')
    go_wp2
    go_ret
    exact ⟨0, ret_bool hd.symm, rfl⟩

theorem sameInts30 (A A' : Option Addr) (n n' c c' : Nat) (xs ys : List Int) (w : World) (hx : RdI w A xs) (hy : RdI w A' ys) (hn : n = xs.length) (hn' : n' = ys.length) (hl : n ≤ 140737488355328) (hl' : n' ≤ 140737488355328) :
    Calls Try.prog 30 #[.slice A n c, .slice A' n' c'] w fun e w' => e = .returned (.bool (decide (xs = ys))) ∧ Below w.heap.size w w' := by
  refine (sameInts30m A A' n n' c c' xs ys w hx hy hn hn' hl hl').mono ?_
  rintro e w' ⟨m, rfl, rfl⟩
  exact ⟨rfl, below_drewN (Below.refl _ _) m⟩

end Go.Proofs.Ytphcpphmoeiioaa
