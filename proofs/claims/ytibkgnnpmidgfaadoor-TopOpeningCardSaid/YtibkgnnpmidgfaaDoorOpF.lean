/- Walks: Far and Example of the program, for TopOpening (its share of Da and Cv). -/
import Derived.Test.YtibkgnnpmidgfaaDoorOpnP
import Derived.Test.YtibkgnnpmidgfaaDoorCd
import Derived.Deep.LoopGhost
import Derived.Outline
namespace Go.Proofs.YtibkgnnpmidgfaaDoor
open Go.RowKit Go.Maps

/-- A truth value is returned. -/
def RetB (e : Ending) : Prop := ∃ b : Bool, e = .returned (.bool b)
theorem okD_of {cw : Int} {B D : List Pt} {R : List Rep} (h : chkE cw B D R = 0) {i : Nat} {s : Pt} (hi : D[i]? = some s) : 1 ≤ s.1 ∧ s.1 ≤ s.2 ∧ s.2 ≤ 60 :=
  (val_of (chk_ok h)).ds _ (List.mem_of_getElem? hi)

set_option maxRecDepth 100000 in
set_option maxHeartbeats 4000000 in
theorem far13 (A0 A1 A2 : Option Addr) (n0 n1 n2 c0 c1 c2 : Nat) (cw : Int) (B D : List Pt) (R : List Rep) (w : World) (hC : RdC w A0 A1 A2 n0 n1 n2 B D R) :
    Calls Tryd.prog 13 #[.agg #[.slice A0 n0 c0, .slice A1 n1 c1, .slice A2 n2 c2, .int .i64 cw]] w fun e w' => RetB e ∧ Below w.heap.size w w' := by
  have HC := Lib.hid hC
  have HL1 := Lib.hid hC.h1
  clear hC
  have o0 : Own (w.alloc (.cells #[.slice A0 n0 c0, .slice A1 n1 c1, .slice A2 n2 c2, .int .i64 cw] 26)) w.heap.size [.slice A0 n0 c0, .slice A1 n1 c1, .slice A2 n2 c2, .int .i64 cw] := Own.new' _ _ rfl rfl
  have oB : Below w.heap.size w (w.alloc (.cells #[.slice A0 n0 c0, .slice A1 n1 c1, .slice A2 n2 c2, .int .i64 cw] 26)) := by (repeat' (first | (with_reducible exact Below.refl _ _) | (with_reducible assumption) | (with_reducible refine Below.drew ?_) | (with_reducible refine below_drewN ?_ _) | (with_reducible refine Below.setCell ?_ ?_ _) | (with_reducible refine Below.alloc ?_ ?_ _) | (refine Below.trans ?_ (Below.mono (by with_reducible assumption) ?_)) | omega | (exact Below.size (by with_reducible assumption)) | (simp; done) | (simp; omega)))
  go_enter Tryd.func13, Tryd.ntmps13
  by_cases hn : n0 ≤ 40 ∧ n1 ≤ 40 ∧ n2 ≤ 40
  · obtain ⟨hn0, hn1, hn2⟩ := hn
    go_wp2_with fail
    refine (check14 A0 A1 A2 n0 n1 n2 c0 c1 c2 cw B D R _ (HC.out.below oB (Nat.le_refl _))).mono ?_
    rcases chkE_cases cw B D R with h | h
    · have H := Lib.hid h
      rw [h]
      rintro e w1 ⟨rfl, hb1⟩
      have q1 := o0.below hb1 o0.lt
      have hB1 : Below w.heap.size w w1 := by (repeat' (first | (with_reducible exact Below.refl _ _) | (with_reducible assumption) | (with_reducible refine Below.drew ?_) | (with_reducible refine below_drewN ?_ _) | (with_reducible refine Below.setCell ?_ ?_ _) | (with_reducible refine Below.alloc ?_ ?_ _) | (refine Below.trans ?_ (Below.mono (by with_reducible assumption) ?_)) | omega | (exact Below.size (by with_reducible assumption)) | (simp; done) | (simp; omega)))
      clear h hb1 o0 oB
      obtain ⟨l1, k1, f1⟩ := q1
      have q1 := Own.mk l1 k1 f1
      go_wp2_with fail
      go_loopg [3, 4] n1 (fun K a y wr => ∃ (k p : Nat), K + k = n1 ∧ y = .int .i64 k ∧ a = .int .i64 p ∧ p ≤ 120 ∧ Own wr w.heap.size [.slice A0 n0 c0, .slice A1 n1 c1, .slice A2 n2 c2, .int .i64 cw] ∧ Below w.heap.size w wr)
      case atStart => exact ⟨0, 1, by omega, rfl, rfl, by omega, q1, hB1⟩
      case round =>
        clear q1 hB1 l1 k1 f1
        obtain ⟨k, p, hk, rfl, rfl, hp, q1, hbw⟩ := hrel
        obtain ⟨l1, k1, f1⟩ := q1
        have q1 := Own.mk l1 k1 f1
        by_cases hlt : k < n1
        · obtain ⟨⟨lo, hi⟩, hs⟩ : ∃ s, Hid (D[k]? = some s) := ⟨D[k]'(by have := HL1.out; omega), by simp [Hid]⟩
          obtain ⟨d1, d2, d3⟩ := okD_of H.out hs.out
          dsimp only at d1 d2 d3
          obtain ⟨b, off, rfl, hb, e0, e1⟩ := rd_pt (HC.out.below hbw (Nat.le_refl _)).r1 hs.out
          dsimp only at e0 e1
          obtain ⟨t, ht⟩ : ∃ t : Nat, hi = lo + t := ⟨(hi - lo).toNat, by omega⟩
          have hm1 : p * (t + 1) ≤ 120 * 60 := Nat.mul_le_mul hp (by omega)
          obtain ⟨P, hP⟩ : ∃ P, P = p * (t + 1) := ⟨_, rfl⟩
          have hm2 : (p : Int) * (hi - lo + 1) = (P : Int) := by
            rw [hP]
            rw [Int.natCast_mul, show hi - lo + 1 = ((t + 1 : Nat) : Int) by omega]
          have hw1 : IntKind.i64.wrap (hi - lo) = hi - lo := IntWalk.i64_in _ (by omega)
          have hw2 : IntKind.i64.wrap (hi - lo + 1) = hi - lo + 1 := IntWalk.i64_in _ (by omega)
          have hw3 : IntKind.i64.wrap ((p : Int) * (hi - lo + 1)) = (P : Int) := by rw [hm2]; exact IntWalk.i64_in _ (by omega)
          rw [← hP] at hm1
          clear ht hm2 hP
          go_wp2
          go_region
          have q2 := q1.drew
          have hB2 := Below.drew hbw
          clear q1 hbw l1 k1 f1 hw1 hw2 hw3
          by_cases hP1 : P ≤ 120
          · go_wp2
            go_roundg (n1 - (k + 1))
            case measure => omega
            case rel => exact ⟨k + 1, P, by omega, by go_num, rfl, hP1, q2, hB2⟩
          · go_wp2
            go_ret
            exact ⟨⟨true, rfl⟩, hB2⟩
        · go_wp2
          go_ret
          exact ⟨⟨_, rfl⟩, hbw⟩
    · rw [h]
      rintro e w1 ⟨rfl, hb1⟩
      go_wp2
      go_ret
      exact ⟨⟨false, rfl⟩, by (repeat' (first | (with_reducible exact Below.refl _ _) | (with_reducible assumption) | (with_reducible refine Below.drew ?_) | (with_reducible refine below_drewN ?_ _) | (with_reducible refine Below.setCell ?_ ?_ _) | (with_reducible refine Below.alloc ?_ ?_ _) | (refine Below.trans ?_ (Below.mono (by with_reducible assumption) ?_)) | omega | (exact Below.size (by with_reducible assumption)) | (simp; done) | (simp; omega)))⟩
  · by_cases a0 : n0 ≤ 40
    · by_cases a1 : n1 ≤ 40
      · have a2 : ¬ n2 ≤ 40 := fun h => hn ⟨a0, a1, h⟩
        clear hn
        go_wp2
        go_ret
        exact ⟨⟨true, rfl⟩, oB⟩
      · clear hn
        go_wp2
        go_ret
        exact ⟨⟨true, rfl⟩, oB⟩
    · clear hn
      go_wp2
      go_ret
      exact ⟨⟨true, rfl⟩, oB⟩

def exB : List Pt := [(0, 0), (3, 4), (6, 0), (9, 4), (12, 0)]
def exD : List Pt := [(5, 7), (10, 13)]
def exR : List Rep := [⟨0, 0, 4, 4⟩, ⟨0, 0, 4, 2⟩, ⟨1, 0, 4, 2⟩]
theorem flat_get {sz : Nat} : ∀ {rows : List (List Value)}, (∀ r ∈ rows, r.length = sz) → ∀ {j : Nat} {r : List Value}, rows[j]? = some r → ∀ {c : Nat} {v : Value}, r[c]? = some v → rows.flatten[j * sz + c]? = some v
  | [], _, j, r, h, _, _, _ => by simp at h
  | r0 :: rows, hl, 0, r, h, c, v, hc => by
    simp at h; subst h
    obtain ⟨hlt, _⟩ := List.getElem?_eq_some_iff.1 hc
    rw [List.flatten_cons, Nat.zero_mul, Nat.zero_add, List.getElem?_append_left hlt]; exact hc
  | r0 :: rows, hl, j + 1, r, h, c, v, hc => by
    have e0 : r0.length = sz := hl r0 (List.mem_cons_self ..)
    rw [List.flatten_cons, List.getElem?_append_right (by rw [e0, Nat.succ_mul]; omega), e0, show (j + 1) * sz + c - sz = j * sz + c by rw [Nat.succ_mul]; omega]
    exact flat_get (fun r hr => hl r (List.mem_cons_of_mem _ hr)) (by simpa using h) hc
theorem Own.rd {sz : Nat} {w : World} {b : Nat} {vs : List Value} {rows : List (List Value)} (h : Own w b vs) (e : rows.flatten = vs) (hl : ∀ r ∈ rows, r.length = sz) : Rd sz w (some ⟨b, 0, none⟩) rows :=
  Rd.mk' h.lt fun j r hj c v hv => by rw [Nat.zero_add, h.c, ← e]; exact flat_get hl hj hv
set_option maxRecDepth 100000 in
set_option maxHeartbeats 4000000 in
theorem example54 (w : World) :
    Calls Tryd.prog 54 #[] w fun e w' => ∃ (b0 b1 b2 : Nat), e = .returned (.agg #[.slice (some ⟨b0, 0, none⟩) 5 5, .slice (some ⟨b1, 0, none⟩) 2 2, .slice (some ⟨b2, 0, none⟩) 3 3, .int .i64 0]) ∧ RdC w' (some ⟨b0, 0, none⟩) (some ⟨b1, 0, none⟩) (some ⟨b2, 0, none⟩) 5 2 3 exB exD exR ∧ Below w.heap.size w w' := by
  go_enter Tryd.func54, Tryd.ntmps54
  go_wp2
  have oB := (((((Below.refl w.heap.size w).alloc (Nat.le_refl _) (Obj.cells #[.slice (some ⟨w.heap.size + 1, 0, none⟩) 5 5, .slice (some ⟨w.heap.size + 1 + 1, 0, none⟩) 2 2, .slice (some ⟨w.heap.size + 1 + 1 + 1, 0, none⟩) 3 3, .int .i64 0] 26)).alloc (by simp) (Obj.cells #[.int .i64 0, .int .i64 0, .int .i64 3, .int .i64 4, .int .i64 6, .int .i64 0, .int .i64 9, .int .i64 4, .int .i64 12, .int .i64 0] 40)).alloc (by simp; omega) (Obj.cells #[.int .i64 5, .int .i64 7, .int .i64 10, .int .i64 13] 33)).alloc (by simp; omega) (Obj.cells #[.int .i64 0, .int .i64 0, .int .i64 4, .int .i64 4, .int .i64 0, .int .i64 0, .int .i64 4, .int .i64 2, .int .i64 1, .int .i64 0, .int .i64 4, .int .i64 2] 58))
  go_returns
  refine ⟨w.heap.size + 1, w.heap.size + 2, w.heap.size + 3, rfl, ⟨rfl, rfl, rfl, by omega, by omega, by omega, ?_, ?_, ?_, by decide⟩, oB⟩
  · refine Own.rd (vs := [.int .i64 0, .int .i64 0, .int .i64 3, .int .i64 4, .int .i64 6, .int .i64 0, .int .i64 9, .int .i64 4, .int .i64 12, .int .i64 0]) ?_ rfl (by simp [exB, prow])
    exact ((Own.new' _ _ (by simp) rfl).alloc _).alloc _
  · refine Own.rd (vs := [.int .i64 5, .int .i64 7, .int .i64 10, .int .i64 13]) ?_ rfl (by simp [exD, prow])
    exact (Own.new' _ _ (by simp) rfl).alloc _
  · refine Own.rd (vs := [.int .i64 0, .int .i64 0, .int .i64 4, .int .i64 4, .int .i64 0, .int .i64 0, .int .i64 4, .int .i64 2, .int .i64 1, .int .i64 0, .int .i64 4, .int .i64 2]) ?_ rfl (by simp [exR, rrow])
    exact Own.new' _ _ (by simp) rfl

end Go.Proofs.YtibkgnnpmidgfaaDoor
