/- Walks: Far, ready, isKnown, in of the program. -/
import Derived.Test.YtibkgnnpmidgfaaDoorCw
import Derived.Test.YtibkgnnpmidgfaaDoorCd
namespace Go.Proofs.YtibkgnnpmidgfaaDoor
open Go.RowKit Go.Maps

/-- A truth value is returned. -/
def RetB (e : Ending) : Prop := ∃ b : Bool, e = .returned (.bool b)
theorem okD_of {cw : Int} {B D : List Pt} {R : List Rep} (h : chkE cw B D R = 0) {i : Nat} {s : Pt} (hi : D[i]? = some s) : 1 ≤ s.1 ∧ s.1 ≤ s.2 ∧ s.2 ≤ 60 :=
  (val_of (chk_ok h)).ds _ (List.mem_of_getElem? hi)

set_option maxRecDepth 100000 in
set_option maxHeartbeats 4000000 in
theorem far13 (A0 A1 A2 : Option Addr) (n0 n1 n2 c0 c1 c2 : Nat) (cw : Int) (B D : List Pt) (R : List Rep) (w : World) (hC : RdC w A0 A1 A2 n0 n1 n2 B D R) :
    Calls Tryd.prog 13 #[.agg #[.slice A0 n0 c0, .slice A1 n1 c1, .slice A2 n2 c2, .int .i64 cw]] w fun e w' => RetB e ∧ Below w.heap.size w w' := by
  have HC := Lib.hid hC
  have HL1 := Lib.hid hC.h1
  clear hC
  have o0 : Own (w.alloc (.cells #[.slice A0 n0 c0, .slice A1 n1 c1, .slice A2 n2 c2, .int .i64 cw] 26)) w.heap.size [.slice A0 n0 c0, .slice A1 n1 c1, .slice A2 n2 c2, .int .i64 cw] := Own.new' _ _ rfl rfl
  have oB : Below w.heap.size w (w.alloc (.cells #[.slice A0 n0 c0, .slice A1 n1 c1, .slice A2 n2 c2, .int .i64 cw] 26)) := by (repeat' (first | (with_reducible exact Below.refl _ _) | (with_reducible assumption) | (with_reducible refine Below.drew ?_) | (with_reducible refine below_drewN ?_ _) | (with_reducible refine Below.setCell ?_ ?_ _) | (with_reducible refine Below.alloc ?_ ?_ _) | (refine Below.trans ?_ (Below.mono (by with_reducible assumption) ?_)) | omega | (exact Below.size (by with_reducible assumption)) | (simp; done) | (simp; omega)))
  go_enter Tryd.func13, Tryd.ntmps13
  by_cases hn : n0 ≤ 40 ∧ n1 ≤ 40 ∧ n2 ≤ 40
  · obtain ⟨hn0, hn1, hn2⟩ := hn
    go_wp2_with fail
    refine (check14 A0 A1 A2 n0 n1 n2 c0 c1 c2 cw B D R _ (HC.out.below oB (Nat.le_refl _))).mono ?_
    rcases chkE_cases cw B D R with h | h
    · have H := Lib.hid h
      rw [h]
      rintro e w1 ⟨rfl, hb1⟩
      have q1 := o0.below hb1 o0.lt
      have hB1 : Below w.heap.size w w1 := by (repeat' (first | (with_reducible exact Below.refl _ _) | (with_reducible assumption) | (with_reducible refine Below.drew ?_) | (with_reducible refine below_drewN ?_ _) | (with_reducible refine Below.setCell ?_ ?_ _) | (with_reducible refine Below.alloc ?_ ?_ _) | (refine Below.trans ?_ (Below.mono (by with_reducible assumption) ?_)) | omega | (exact Below.size (by with_reducible assumption)) | (simp; done) | (simp; omega)))
      clear h hb1 o0 oB
      obtain ⟨l1, k1, f1⟩ := q1
      have q1 := Own.mk l1 k1 f1
      go_wp2_with fail
      go_loopg [3, 4] n1 (fun K a y wr => ∃ (k p : Nat), K + k = n1 ∧ y = .int .i64 k ∧ a = .int .i64 p ∧ p ≤ 120 ∧ Own wr w.heap.size [.slice A0 n0 c0, .slice A1 n1 c1, .slice A2 n2 c2, .int .i64 cw] ∧ Below w.heap.size w wr)
      case atStart => exact ⟨0, 1, by omega, rfl, rfl, by omega, q1, hB1⟩
      case round =>
        clear q1 hB1 l1 k1 f1
        obtain ⟨k, p, hk, rfl, rfl, hp, q1, hbw⟩ := hrel
        obtain ⟨l1, k1, f1⟩ := q1
        have q1 := Own.mk l1 k1 f1
        by_cases hlt : k < n1
        · obtain ⟨⟨lo, hi⟩, hs⟩ : ∃ s, Hid (D[k]? = some s) := ⟨D[k]'(by have := HL1.out; omega), by simp [Hid]⟩
          obtain ⟨d1, d2, d3⟩ := okD_of H.out hs.out
          dsimp only at d1 d2 d3
          obtain ⟨b, off, rfl, hb, e0, e1⟩ := rd_pt (HC.out.below hbw (Nat.le_refl _)).r1 hs.out
          dsimp only at e0 e1
          obtain ⟨t, ht⟩ : ∃ t : Nat, hi = lo + t := ⟨(hi - lo).toNat, by omega⟩
          have hm1 : p * (t + 1) ≤ 120 * 60 := Nat.mul_le_mul hp (by omega)
          obtain ⟨P, hP⟩ : ∃ P, P = p * (t + 1) := ⟨_, rfl⟩
          have hm2 : (p : Int) * (hi - lo + 1) = (P : Int) := by
            rw [hP]
            rw [Int.natCast_mul, show hi - lo + 1 = ((t + 1 : Nat) : Int) by omega]
          have hw1 : IntKind.i64.wrap (hi - lo) = hi - lo := IntWalk.i64_in _ (by omega)
          have hw2 : IntKind.i64.wrap (hi - lo + 1) = hi - lo + 1 := IntWalk.i64_in _ (by omega)
          have hw3 : IntKind.i64.wrap ((p : Int) * (hi - lo + 1)) = (P : Int) := by rw [hm2]; exact IntWalk.i64_in _ (by omega)
          rw [← hP] at hm1
          clear ht hm2 hP
          go_wp2
          go_region
          have q2 := q1.drew
          have hB2 := Below.drew hbw
          clear q1 hbw l1 k1 f1 hw1 hw2 hw3
          by_cases hP1 : P ≤ 120
          · go_wp2
            go_roundg (n1 - (k + 1))
            case measure => omega
            case rel => exact ⟨k + 1, P, by omega, by go_num, rfl, hP1, q2, hB2⟩
          · go_wp2
            go_ret
            exact ⟨⟨true, rfl⟩, hB2⟩
        · go_wp2
          go_ret
          exact ⟨⟨_, rfl⟩, hbw⟩
    · rw [h]
      rintro e w1 ⟨rfl, hb1⟩
      go_wp2
      go_ret
      exact ⟨⟨false, rfl⟩, by (repeat' (first | (with_reducible exact Below.refl _ _) | (with_reducible assumption) | (with_reducible refine Below.drew ?_) | (with_reducible refine below_drewN ?_ _) | (with_reducible refine Below.setCell ?_ ?_ _) | (with_reducible refine Below.alloc ?_ ?_ _) | (refine Below.trans ?_ (Below.mono (by with_reducible assumption) ?_)) | omega | (exact Below.size (by with_reducible assumption)) | (simp; done) | (simp; omega)))⟩
  · by_cases a0 : n0 ≤ 40
    · by_cases a1 : n1 ≤ 40
      · have a2 : ¬ n2 ≤ 40 := fun h => hn ⟨a0, a1, h⟩
        clear hn
        go_wp2
        go_ret
        exact ⟨⟨true, rfl⟩, oB⟩
      · clear hn
        go_wp2
        go_ret
        exact ⟨⟨true, rfl⟩, oB⟩
    · clear hn
      go_wp2
      go_ret
      exact ⟨⟨true, rfl⟩, oB⟩

set_option maxHeartbeats 1000000 in
/-- Only sound coasts are ready. -/
theorem ready19 (A0 A1 A2 : Option Addr) (n0 n1 n2 c0 c1 c2 : Nat) (cw : Int) (B D : List Pt) (R : List Rep) (w : World) (hC : RdC w A0 A1 A2 n0 n1 n2 B D R) :
    Calls Tryd.prog 19 #[.agg #[.slice A0 n0 c0, .slice A1 n1 c1, .slice A2 n2 c2, .int .i64 cw]] w fun e w' => ∃ b : Bool, e = .returned (.bool b) ∧ (b = true → chkE cw B D R = 0) ∧ Below w.heap.size w w' := by
  have HC := Lib.hid hC
  clear hC
  have o0 : Own (w.alloc (.cells #[.slice A0 n0 c0, .slice A1 n1 c1, .slice A2 n2 c2, .int .i64 cw] 26)) w.heap.size [.slice A0 n0 c0, .slice A1 n1 c1, .slice A2 n2 c2, .int .i64 cw] := Own.new' _ _ rfl rfl
  have oB : Below w.heap.size w (w.alloc (.cells #[.slice A0 n0 c0, .slice A1 n1 c1, .slice A2 n2 c2, .int .i64 cw] 26)) := by (repeat' (first | (with_reducible exact Below.refl _ _) | (with_reducible assumption) | (with_reducible refine Below.drew ?_) | (with_reducible refine below_drewN ?_ _) | (with_reducible refine Below.setCell ?_ ?_ _) | (with_reducible refine Below.alloc ?_ ?_ _) | (refine Below.trans ?_ (Below.mono (by with_reducible assumption) ?_)) | omega | (exact Below.size (by with_reducible assumption)) | (simp; done) | (simp; omega)))
  go_enter Tryd.func19, Tryd.ntmps19
  go_wp2_with fail
  refine (far13 A0 A1 A2 n0 n1 n2 c0 c1 c2 cw B D R _ (HC.out.below oB (Nat.le_refl _))).mono ?_
  rintro e w1 ⟨⟨b, rfl⟩, hb1⟩
  have q1 := o0.below hb1 o0.lt
  have hB1 : Below w.heap.size w w1 := by (repeat' (first | (with_reducible exact Below.refl _ _) | (with_reducible assumption) | (with_reducible refine Below.drew ?_) | (with_reducible refine below_drewN ?_ _) | (with_reducible refine Below.setCell ?_ ?_ _) | (with_reducible refine Below.alloc ?_ ?_ _) | (refine Below.trans ?_ (Below.mono (by with_reducible assumption) ?_)) | omega | (exact Below.size (by with_reducible assumption)) | (simp; done) | (simp; omega)))
  obtain ⟨l1, k1, f1⟩ := q1
  clear o0 hb1
  cases b
  · go_wp2_with fail
    refine (check14 A0 A1 A2 n0 n1 n2 c0 c1 c2 cw B D R _ (HC.out.below hB1 (Nat.le_refl _))).mono ?_
    rcases chkE_cases cw B D R with h | h
    · have H := Lib.hid h
      rw [h]
      rintro e w2 ⟨rfl, hb2⟩
      clear h
      go_wp2
      go_ret
      exact ⟨true, rfl, fun _ => H.out, by (repeat' (first | (with_reducible exact Below.refl _ _) | (with_reducible assumption) | (with_reducible refine Below.drew ?_) | (with_reducible refine below_drewN ?_ _) | (with_reducible refine Below.setCell ?_ ?_ _) | (with_reducible refine Below.alloc ?_ ?_ _) | (refine Below.trans ?_ (Below.mono (by with_reducible assumption) ?_)) | omega | (exact Below.size (by with_reducible assumption)) | (simp; done) | (simp; omega)))⟩
    · rw [h]
      rintro e w2 ⟨rfl, hb2⟩
      clear h
      go_wp2
      go_ret
      exact ⟨false, rfl, (fun e => by cases e), by (repeat' (first | (with_reducible exact Below.refl _ _) | (with_reducible assumption) | (with_reducible refine Below.drew ?_) | (with_reducible refine below_drewN ?_ _) | (with_reducible refine Below.setCell ?_ ?_ _) | (with_reducible refine Below.alloc ?_ ?_ _) | (refine Below.trans ?_ (Below.mono (by with_reducible assumption) ?_)) | omega | (exact Below.size (by with_reducible assumption)) | (simp; done) | (simp; omega)))⟩
  · go_wp2
    go_ret
    exact ⟨false, rfl, (fun e => by cases e), hB1⟩
theorem isKnown23 (n : Int) (w : World) (hn : n = 0 ∨ n = 3) : Calls Tryd.prog 23 #[.int .i64 n] w fun e w' => e = .returned (.bool true) ∧ w = w' := by
  go_enter Tryd.func23, Tryd.ntmps23
  rcases hn with rfl | rfl
  · go_wp2
    go_ret
    exact ⟨rfl, rfl⟩
  · go_wp2
    go_ret
    exact ⟨rfl, rfl⟩
set_option maxRecDepth 100000 in
set_option maxHeartbeats 2000000 in
theorem in26 (A : Option Addr) (n c : Nat) (xs : List Int) (x : Int) (w : World) (hx : RdI w A xs) (hn : n = xs.length) (hl : n ≤ 140737488355328) :
    Calls Tryd.prog 26 #[.slice A n c, .int .i64 x] w fun e w' => e = .returned (.bool (decide (x ∈ xs))) ∧ w = w' := by
  have HX := Lib.hid hx
  have HN := Lib.hid hn
  clear hx hn
  go_enter Tryd.func26, Tryd.ntmps26
  go_wp2
  go_loopg [5] n (fun K i wr => ∃ k : Nat, K + k = n ∧ i = .int .i64 k ∧ w = wr ∧ Hid (x ∉ xs.take k))
  case atStart => exact ⟨0, rfl, rfl, rfl, by simp [Hid]⟩
  case round =>
    obtain ⟨k, hk, rfl, rfl, ht⟩ := hrel
    by_cases hlt : k < n
    · obtain ⟨y, hy⟩ : ∃ y, Hid (xs[k]? = some y) := ⟨xs[k]'(by have := HN.out; omega), by simp [Hid]⟩
      obtain ⟨b, o, rfl, hb, hc⟩ := HX.out.elem hy.out
      by_cases hxy : y = x
      · have hd : Hid (decide (x ∈ xs) = true) := decide_eq_true (by rw [← hxy]; exact List.mem_of_getElem? hy.out)
        have heq : (y == x) = true := by simpa using hxy
        go_wp2
        go_ret
        exact ⟨ret_bool hd.out.symm, rfl⟩
      · have heq : (y == x) = false := by simpa using hxy
        go_wp2
        go_roundg (n - (k + 1))
        case measure => omega
        case rel => exact ⟨k + 1, by omega, by go_num, rfl, (by
          show _ ∉ _
          rw [take_snoc hy.out]
          simp only [List.mem_append, List.mem_singleton, not_or]
          exact ⟨ht.out, fun e => hxy e.symm⟩)⟩
    · have hd : Hid (decide (x ∈ xs) = false) := decide_eq_false (by have := ht.out; rw [List.take_of_length_le (by have := HN.out; omega)] at this; exact this)
      go_wp2
      go_ret
      exact ⟨ret_bool hd.out.symm, rfl⟩

end Go.Proofs.YtibkgnnpmidgfaaDoor
