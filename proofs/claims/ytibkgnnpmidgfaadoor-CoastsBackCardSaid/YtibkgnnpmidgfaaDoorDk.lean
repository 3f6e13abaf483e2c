/- Walks: CoastsBack of the program. -/
import Derived.Test.YtibkgnnpmidgfaaDoorBkQ
import Derived.Test.YtibkgnnpmidgfaaDoorAq
import Derived.Test.YtibkgnnpmidgfaaDoorDj
import Derived.Test.YtibkgnnpmidgfaaDoorDf
namespace Go.Proofs.YtibkgnnpmidgfaaDoor
open Go.RowKit Go.Maps

theorem cntL_len (cw : Int) (B D : List Pt) (R : List Rep) (o f t : Int) : (cntL cw B D R o f t).length ≤ 13 := by
  unfold cntL
  split
  · exact bitsL_len _
  · simp
theorem opgL_len {cw : Int} {B D : List Pt} {R : List Rep} (hV : Val cw B D R) (d : Int) : (opgL cw B D R d).length ≤ 60 := by
  unfold opgL
  split
  · rename_i h
    have h1 := (opE_true h).1
    unfold isDv at h1
    have h2 := btw_iff.1 h1
    exact opsD_len hV (by omega)
  · simp
theorem put_row {α : Type} (P : α → List Value) {xs ys : List α} {k : Nat} {g : α} (hx : xs[k]? = some g) (hl : xs.length = ys.length) : ((xs.take k ++ ys.drop k).map P).set k (P g) = (xs.take (k + 1) ++ ys.drop (k + 1)).map P := by
  obtain ⟨hlt, rfl⟩ := List.getElem?_eq_some_iff.1 hx
  rw [List.map_append, List.set_append_right _ _ (by simp; omega), List.length_map, List.length_take, Nat.min_eq_left (by omega), Nat.sub_self, List.drop_eq_getElem_cons (by omega), List.map_cons, List.set_cons_zero, List.take_succ_eq_append_getElem hlt, List.map_append, List.map_append, List.append_assoc]
  rfl
theorem row_at {α : Type} (P : α → List Value) {xs ys : List α} {k : Nat} {g : α} (hy : ys[k]? = some g) (hl : xs.length = ys.length) : ((xs.take k ++ ys.drop k).map P)[k]? = some (P g) := by
  obtain ⟨hlt, _⟩ := List.getElem?_eq_some_iff.1 hy
  rw [List.getElem?_map, List.getElem?_append_right (by simp; omega), List.length_take, Nat.min_eq_left (by omega), Nat.sub_self, List.getElem?_drop, Nat.add_zero, hy]; rfl

set_option maxRecDepth 100000 in
set_option maxHeartbeats 8000000 in
theorem back6 (A0 A1 A2 : Option Addr) (n0 n1 n2 c0 c1 c2 : Nat) (cw : Int) (o f t m p q : Int) (B D : List Pt) (R : List Rep) (w : World) (hC : RdC w A0 A1 A2 n0 n1 n2 B D R) (hT : Tab w) (ht : -9223372036854775808 ≤ t ∧ t ≤ 9223372036854775807) :
    Calls Tryd.prog 6 #[.agg #[.slice A0 n0 c0, .slice A1 n1 c1, .slice A2 n2 c2, .int .i64 cw], .agg #[.int .i64 o, .int .i64 f, .int .i64 t, .int .i64 m], .agg #[.int .i64 p, .int .i64 q]] w fun e w' => e = .returned (.bool true) ∧ Below w.heap.size w w' := by
  have HC := Lib.hid hC
  have HT := Lib.hid hT
  have HL := Lib.hid hC.h0
  have HL1 := Lib.hid hC.h1
  have HL2 := Lib.hid hC.h2
  clear hC hT
  have o0 : Own (((w.alloc (.cells #[.slice A0 n0 c0, .slice A1 n1 c1, .slice A2 n2 c2, .int .i64 cw] 26)).alloc (.cells #[.int .i64 o, .int .i64 f, .int .i64 t, .int .i64 m] 44)).alloc (.cells #[.int .i64 p, .int .i64 q] 55)) w.heap.size [.slice A0 n0 c0, .slice A1 n1 c1, .slice A2 n2 c2, .int .i64 cw] := ((Own.new' _ _ rfl rfl).alloc _).alloc _
  have o1 : Own (((w.alloc (.cells #[.slice A0 n0 c0, .slice A1 n1 c1, .slice A2 n2 c2, .int .i64 cw] 26)).alloc (.cells #[.int .i64 o, .int .i64 f, .int .i64 t, .int .i64 m] 44)).alloc (.cells #[.int .i64 p, .int .i64 q] 55)) (w.heap.size + 1) [.int .i64 o, .int .i64 f, .int .i64 t, .int .i64 m] := (Own.new' _ _ (by simp) rfl).alloc _
  have o2 : Own (((w.alloc (.cells #[.slice A0 n0 c0, .slice A1 n1 c1, .slice A2 n2 c2, .int .i64 cw] 26)).alloc (.cells #[.int .i64 o, .int .i64 f, .int .i64 t, .int .i64 m] 44)).alloc (.cells #[.int .i64 p, .int .i64 q] 55)) (w.heap.size + 2) [.int .i64 p, .int .i64 q] := Own.new' _ _ (by simp) rfl
  have oB : Below w.heap.size w (((w.alloc (.cells #[.slice A0 n0 c0, .slice A1 n1 c1, .slice A2 n2 c2, .int .i64 cw] 26)).alloc (.cells #[.int .i64 o, .int .i64 f, .int .i64 t, .int .i64 m] 44)).alloc (.cells #[.int .i64 p, .int .i64 q] 55)) := by (repeat' (first | (with_reducible exact Below.refl _ _) | (with_reducible assumption) | (with_reducible refine Below.drew ?_) | (with_reducible refine below_drewN ?_ _) | (with_reducible refine Below.setCell ?_ ?_ _) | (with_reducible refine Below.alloc ?_ ?_ _) | (refine Below.trans ?_ (Below.mono (by with_reducible assumption) ?_)) | omega | (exact Below.size (by with_reducible assumption)) | (simp; done) | (simp; omega)))
  go_enter Tryd.func6, Tryd.ntmps6
  go_wp2_with fail
  refine (ready19 A0 A1 A2 n0 n1 n2 c0 c1 c2 cw B D R _ (HC.out.below oB (Nat.le_refl _))).mono ?_
  rintro e w1 ⟨b, rfl, hrdy, hb1⟩
  have q0 := o0.below hb1 o0.lt
  have q1 := o1.below hb1 o1.lt
  have q2 := o2.below hb1 o2.lt
  have hB1 : Below w.heap.size w w1 := by (repeat' (first | (with_reducible exact Below.refl _ _) | (with_reducible assumption) | (with_reducible refine Below.drew ?_) | (with_reducible refine below_drewN ?_ _) | (with_reducible refine Below.setCell ?_ ?_ _) | (with_reducible refine Below.alloc ?_ ?_ _) | (refine Below.trans ?_ (Below.mono (by with_reducible assumption) ?_)) | omega | (exact Below.size (by with_reducible assumption)) | (simp; done) | (simp; omega)))
  obtain ⟨l0, k0, f0⟩ := q0
  have q0 := Own.mk l0 k0 f0
  clear o0 o1 o2 oB hb1
  cases b
  · (go_wp2_with fail; refine (works21 _ (HT.out.below hB1 (Nat.le_refl _))).mono ?_; rintro e w9 ⟨rfl, hb9⟩; go_wp2; go_ret; exact ⟨rfl, by (repeat' (first | (with_reducible exact Below.refl _ _) | (with_reducible assumption) | (with_reducible refine Below.drew ?_) | (with_reducible refine below_drewN ?_ _) | (with_reducible refine Below.setCell ?_ ?_ _) | (with_reducible refine Below.alloc ?_ ?_ _) | (refine Below.trans ?_ (Below.mono (by with_reducible assumption) ?_)) | omega | (exact Below.size (by with_reducible assumption)) | (simp; done) | (simp; omega)))⟩)
  · have H := Lib.hid (hrdy rfl)
    clear hrdy
    have hV := Lib.hid (val_of (chk_ok H.out))
    have hn0 : n0 ≤ 12 ∧ 2 ≤ n0 := by have := hV.out.b1; have := hV.out.b2; have := HL.out; omega
    have hn1 : n1 ≤ 4 := by have := hV.out.d; have := HL1.out; omega
    have hn2 : n2 ≤ 8 := by have := hV.out.r; have := HL2.out; omega
    go_wp2_with fail
    refine (copy27 A0 A1 A2 n0 n1 n2 c0 c1 c2 cw B D R _ (HC.out.below hB1 (Nat.le_refl _)) (by omega) (by omega) (by omega)).mono ?_
    rintro e w2 ⟨v0, v1, v2, rfl, G0, G1, G2, hb2⟩
    have p0 := q0.below hb2 q0.lt
    have p1 := q1.below hb2 q1.lt
    have p2 := q2.below hb2 q2.lt
    have hB2 : Below w.heap.size w w2 := by (repeat' (first | (with_reducible exact Below.refl _ _) | (with_reducible assumption) | (with_reducible refine Below.drew ?_) | (with_reducible refine below_drewN ?_ _) | (with_reducible refine Below.setCell ?_ ?_ _) | (with_reducible refine Below.alloc ?_ ?_ _) | (refine Below.trans ?_ (Below.mono (by with_reducible assumption) ?_)) | omega | (exact Below.size (by with_reducible assumption)) | (simp; done) | (simp; omega)))
    have hz1 : w.heap.size + 3 ≤ w1.heap.size := q2.lt
    clear q0 q1 q2 hb2 hB1 l0 k0 f0
    obtain ⟨g0, c0', rfl⟩ := G0.some (by rw [List.length_map]; have := HL.out; omega)
    obtain ⟨A1', c1', rfl, _⟩ := G1.out
    obtain ⟨A2', c2', rfl, _⟩ := G2.out
    simp only [List.length_map] at G0 G1 G2
    rw [← HL.out] at G0
    rw [← HL1.out] at G1
    rw [← HL2.out] at G2
    simp only [List.length_map]
    rw [← HL.out, ← HL1.out, ← HL2.out]
    have lb := p2.lt
    have lg := G0.lt
    have lg2 := Lib.hid G2.2.lt
    have o7 := Own.new' (w := w2) (b := w2.heap.size) #[.slice (some ⟨g0, 0, none⟩) n0 c0', .slice A1' n1 c1', .slice A2' n2 c2', .int .i64 cw] 26 rfl rfl
    have s0 := p0.alloc (.cells #[.slice (some ⟨g0, 0, none⟩) n0 c0', .slice A1' n1 c1', .slice A2' n2 c2', .int .i64 cw] 26)
    have s1 := p1.alloc (.cells #[.slice (some ⟨g0, 0, none⟩) n0 c0', .slice A1' n1 c1', .slice A2' n2 c2', .int .i64 cw] 26)
    have s2 := p2.alloc (.cells #[.slice (some ⟨g0, 0, none⟩) n0 c0', .slice A1' n1 c1', .slice A2' n2 c2', .int .i64 cw] 26)
    have F0 := G0.alloc (.cells #[.slice (some ⟨g0, 0, none⟩) n0 c0', .slice A1' n1 c1', .slice A2' n2 c2', .int .i64 cw] 26)
    have F1 := G1.alloc (.cells #[.slice (some ⟨g0, 0, none⟩) n0 c0', .slice A1' n1 c1', .slice A2' n2 c2', .int .i64 cw] 26)
    have F2 := G2.alloc (.cells #[.slice (some ⟨g0, 0, none⟩) n0 c0', .slice A1' n1 c1', .slice A2' n2 c2', .int .i64 cw] 26)
    have hB3 : Below w.heap.size w (w2.alloc (.cells #[.slice (some ⟨g0, 0, none⟩) n0 c0', .slice A1' n1 c1', .slice A2' n2 c2', .int .i64 cw] 26)) := by (repeat' (first | (with_reducible exact Below.refl _ _) | (with_reducible assumption) | (with_reducible refine Below.drew ?_) | (with_reducible refine below_drewN ?_ _) | (with_reducible refine Below.setCell ?_ ?_ _) | (with_reducible refine Below.alloc ?_ ?_ _) | (refine Below.trans ?_ (Below.mono (by with_reducible assumption) ?_)) | omega | (exact Below.size (by with_reducible assumption)) | (simp; done) | (simp; omega)))
    obtain ⟨l0, k0, f0⟩ := p0
    go_wp2
    go_loopg [9] n0 (fun K y wr => ∃ k : Nat, K + k = n0 ∧ y = .int .i64 k ∧ Own wr w.heap.size [.slice A0 n0 c0, .slice A1 n1 c1, .slice A2 n2 c2, .int .i64 cw] ∧ Own wr (w.heap.size + 1) [.int .i64 o, .int .i64 f, .int .i64 t, .int .i64 m] ∧ Own wr (w.heap.size + 2) [.int .i64 p, .int .i64 q] ∧ Own wr w2.heap.size [.slice (some ⟨g0, 0, none⟩) n0 c0', .slice A1' n1 c1', .slice A2' n2 c2', .int .i64 cw] ∧ Gro wr w1.heap.size 40 2 (.slice (some ⟨g0, 0, none⟩) n0 c0') ((B.reverse.take k ++ B.drop k).map prow) ∧ Gro wr w1.heap.size 33 2 (.slice A1' n1 c1') (D.map prow) ∧ Gro wr w1.heap.size 58 4 (.slice A2' n2 c2') (R.map rrow) ∧ Below w.heap.size w wr)
    case atStart => exact ⟨0, by omega, rfl, s0, s1, s2, o7, (by simpa using F0), F1, F2, hB3⟩
    case round =>
      clear s0 s1 s2 o7 F0 F1 F2 hB3 G0 G1 G2 p1 p2 hB2 k0 f0 l0
      obtain ⟨k, hk, rfl, s0, s1, s2, o7, F0, F1, F2, hBr⟩ := hrel
      by_cases hlt : k < n0
      · obtain ⟨⟨x, y⟩, hxy⟩ : ∃ g, Hid (B[n0 - 1 - k]? = some g) := ⟨B[n0 - 1 - k]'(by have := HL.out; omega), by simp [Hid]⟩
        obtain ⟨b, off, rfl, hbl, e0, e1⟩ := rd_pt (HC.out.below hBr (Nat.le_refl _)).r0 hxy.out
        dsimp only at e0 e1
        obtain ⟨⟨x', y'⟩, hxy'⟩ : ∃ g, Hid (B[k]? = some g) := ⟨B[k]'(by have := HL.out; omega), by simp [Hid]⟩
        obtain ⟨l0, k0, f0⟩ := s0
        obtain ⟨l7, k7, f7⟩ := o7
        have hrow := row_at prow (xs := B.reverse) (ys := B) hxy'.out (List.length_reverse)
        have HROW := Lib.hid hrow
        have z0 : wr.cell? ⟨g0, k * 2, none⟩ = some (.int .i64 x') := F0.cell hrow (c := 0) rfl
        have z1 : wr.cell? ⟨g0, k * 2 + 1, none⟩ = some (.int .i64 y') := F0.cell hrow (c := 1) rfl
        have zf := fun j => F0.free j
        clear hrow
        go_wp2
        go_region
        have s0 := Own.mk l0 k0 f0
        have o7 := Own.mk l7 k7 f7
        have hg1 : w1.heap.size ≤ g0 ∧ g0 < w2.heap.size := lg
        have hne1 := F1.apart F0 (by decide)
        have hne2 := F2.apart F0 (by decide)
        have F0' := (F0.set HROW.out (c := 0) (by omega) (.int .i64 x)).set (i := k) (c := 1) (List.getElem?_set_self (by have := (List.getElem?_eq_some_iff.1 HROW.out).1; exact this)) (by omega) (.int .i64 y)
        rw [List.set_set, show ((prow (x', y')).set 0 (Value.int .i64 x)).set 1 (.int .i64 y) = prow (x, y) from rfl, put_row prow (g := (x, y)) (by rw [List.getElem?_reverse (by have := HL.out; omega), ← HL.out]; exact hxy.out) (List.length_reverse), Nat.add_zero] at F0'
        have F1' := (F1.setRow (j := k * 2) hne1 (.int .i64 x)).setRow (j := k * 2 + 1) hne1 (.int .i64 y)
        have F2' := (F2.setRow (j := k * 2) hne2 (.int .i64 x)).setRow (j := k * 2 + 1) hne2 (.int .i64 y)
        have t0 := ((s0.setOther (a := ⟨g0, k * 2, none⟩) (by show g0 ≠ _; omega) (.int .i64 x)).setOther (a := ⟨g0, k * 2 + 1, none⟩) (by show g0 ≠ _; omega) (.int .i64 y)).drew
        have t1 := ((s1.setOther (a := ⟨g0, k * 2, none⟩) (by show g0 ≠ _; omega) (.int .i64 x)).setOther (a := ⟨g0, k * 2 + 1, none⟩) (by show g0 ≠ _; omega) (.int .i64 y)).drew
        have t2 := ((s2.setOther (a := ⟨g0, k * 2, none⟩) (by show g0 ≠ _; omega) (.int .i64 x)).setOther (a := ⟨g0, k * 2 + 1, none⟩) (by show g0 ≠ _; omega) (.int .i64 y)).drew
        have t7 := ((o7.setOther (a := ⟨g0, k * 2, none⟩) (by show g0 ≠ _; omega) (.int .i64 x)).setOther (a := ⟨g0, k * 2 + 1, none⟩) (by show g0 ≠ _; omega) (.int .i64 y)).drew
        have hB' : Below w.heap.size w ((wr.setCell ⟨g0, k * 2, none⟩ (.int .i64 x)).setCell ⟨g0, k * 2 + 1, none⟩ (.int .i64 y)).drew := by (repeat' (first | (with_reducible exact Below.refl _ _) | (with_reducible assumption) | (with_reducible refine Below.drew ?_) | (with_reducible refine below_drewN ?_ _) | (with_reducible refine Below.setCell ?_ ?_ _) | (with_reducible refine Below.alloc ?_ ?_ _) | (refine Below.trans ?_ (Below.mono (by with_reducible assumption) ?_)) | omega | (exact Below.size (by with_reducible assumption)) | (simp; done) | (simp; omega)))
        clear s0 s1 s2 o7 k0 k7 f0 f7 z0 z1 zf e0 e1 hne1 hne2
        go_wp2
        go_roundg (n0 - (k + 1))
        case measure => omega
        case rel => exact ⟨k + 1, by omega, by go_num, t0, t1, t2, t7, F0', F1', F2', hB'⟩
      · have hkn : n0 = k := by omega
        subst hkn
        rw [List.take_of_length_le (by simp; have := HL.out; omega), List.drop_eq_nil_of_le (by have := HL.out; omega), List.append_nil] at F0
        obtain ⟨l0, k0, f0⟩ := s0
        have s0 := Own.mk l0 k0 f0
        go_wp2
        go_loopg [10] n2 (fun K y wr => ∃ k : Nat, K + k = n2 ∧ y = .int .i64 k ∧ Own wr w.heap.size [.slice A0 n0 c0, .slice A1 n1 c1, .slice A2 n2 c2, .int .i64 cw] ∧ Own wr (w.heap.size + 1) [.int .i64 o, .int .i64 f, .int .i64 t, .int .i64 m] ∧ Own wr (w.heap.size + 2) [.int .i64 p, .int .i64 q] ∧ Own wr w2.heap.size [.slice (some ⟨g0, 0, none⟩) n0 c0', .slice A1' n1 c1', .slice A2' n2 c2', .int .i64 cw] ∧ Gro wr w1.heap.size 40 2 (.slice (some ⟨g0, 0, none⟩) n0 c0') (B.reverse.map prow) ∧ Gro wr w1.heap.size 33 2 (.slice A1' n1 c1') (D.map prow) ∧ Gro wr w1.heap.size 58 4 (.slice A2' n2 c2') (((R.map (revR B.length)).take k ++ R.drop k).map rrow) ∧ Below w.heap.size w wr)
        case atStart => exact ⟨0, by omega, rfl, s0, s1, s2, o7, F0, F1, (by simpa using F2), hBr⟩
        case round =>
          clear s0 s1 s2 o7 F0 F1 F2 hBr l0 k0 f0
          obtain ⟨wo, rfl⟩ : ∃ wo : World, wo = wr := ⟨_, rfl⟩
          obtain ⟨k, hk, rfl, s0, s1, s2, o7, F0, F1, F2, hBr⟩ := hrel
          by_cases hlt : k < n2
          · obtain ⟨r, hr⟩ : ∃ g, Hid (R[k]? = some g) := ⟨R[k]'(by have := HL2.out; omega), by simp [Hid]⟩
            obtain ⟨b, off, rfl, hbl, e0, e1, e2, e3⟩ := rd_rep (HC.out.below hBr (Nat.le_refl _)).r2 hr.out
            obtain ⟨rd1, rd2, rf, rft, rt, rs1, rs2⟩ := hV.out.rs r (List.mem_of_getElem? hr.out)
            obtain ⟨g2, c2x, hg2⟩ := F2.some (by have := HL2.out; simp; omega)
            have hg2' : A2' = some ⟨g2, 0, none⟩ := by cases hg2; rfl
            subst hg2'
            clear hg2
            have hrow := row_at rrow (xs := R.map (revR B.length)) (ys := R) hr.out (List.length_map _)
            have HROW := Lib.hid hrow
            have z1 : wo.cell? ⟨g2, k * 4 + 1, none⟩ = some (.int .i64 r.f) := F2.cell hrow (c := 1) rfl
            have z2 : wo.cell? ⟨g2, k * 4 + 2, none⟩ = some (.int .i64 r.t) := F2.cell hrow (c := 2) rfl
            have zf := fun j => F2.free j
            have hg1 := F2.lt
            have hl := HL.out
            obtain ⟨l0, k0, f0⟩ := s0
            obtain ⟨l7, k7, f7⟩ := o7
            clear hrow
            go_wp2
            go_region
            have s0 := Own.mk l0 k0 f0
            have o7 := Own.mk l7 k7 f7
            have hg3 : w1.heap.size ≤ g2 ∧ g2 < w2.heap.size := lg2.out g2 rfl
            have hne0 := F0.apart F2 (by decide)
            have hne1 := F1.apart F2 (by decide)
            have F2' := (F2.set HROW.out (c := 1) (by omega) (.int .i64 ((B.length : Int) - 1 - r.t))).set (i := k) (c := 2) (List.getElem?_set_self (by have := (List.getElem?_eq_some_iff.1 HROW.out).1; exact this)) (by omega) (.int .i64 ((B.length : Int) - 1 - r.f))
            rw [List.set_set, show ((rrow r).set 1 (Value.int .i64 ((B.length : Int) - 1 - r.t))).set 2 (.int .i64 ((B.length : Int) - 1 - r.f)) = rrow (revR B.length r) from rfl, put_row rrow (g := revR B.length r) (by rw [List.getElem?_map, hr.out]; rfl) (List.length_map _)] at F2'
            have F0' := (F0.setRow (j := k * 4 + 1) hne0 (.int .i64 ((B.length : Int) - 1 - r.t))).setRow (j := k * 4 + 2) hne0 (.int .i64 ((B.length : Int) - 1 - r.f))
            have F1' := (F1.setRow (j := k * 4 + 1) hne1 (.int .i64 ((B.length : Int) - 1 - r.t))).setRow (j := k * 4 + 2) hne1 (.int .i64 ((B.length : Int) - 1 - r.f))
            have t0 := ((s0.setOther (a := ⟨g2, k * 4 + 1, none⟩) (by show g2 ≠ _; omega) (.int .i64 ((B.length : Int) - 1 - r.t))).setOther (a := ⟨g2, k * 4 + 2, none⟩) (by show g2 ≠ _; omega) (.int .i64 ((B.length : Int) - 1 - r.f))).drew
            have t1 := ((s1.setOther (a := ⟨g2, k * 4 + 1, none⟩) (by show g2 ≠ _; omega) (.int .i64 ((B.length : Int) - 1 - r.t))).setOther (a := ⟨g2, k * 4 + 2, none⟩) (by show g2 ≠ _; omega) (.int .i64 ((B.length : Int) - 1 - r.f))).drew
            have t2 := ((s2.setOther (a := ⟨g2, k * 4 + 1, none⟩) (by show g2 ≠ _; omega) (.int .i64 ((B.length : Int) - 1 - r.t))).setOther (a := ⟨g2, k * 4 + 2, none⟩) (by show g2 ≠ _; omega) (.int .i64 ((B.length : Int) - 1 - r.f))).drew
            have t7 := ((o7.setOther (a := ⟨g2, k * 4 + 1, none⟩) (by show g2 ≠ _; omega) (.int .i64 ((B.length : Int) - 1 - r.t))).setOther (a := ⟨g2, k * 4 + 2, none⟩) (by show g2 ≠ _; omega) (.int .i64 ((B.length : Int) - 1 - r.f))).drew
            have hB' : Below w.heap.size w ((wo.setCell ⟨g2, k * 4 + 1, none⟩ (.int .i64 ((B.length : Int) - 1 - r.t))).setCell ⟨g2, k * 4 + 2, none⟩ (.int .i64 ((B.length : Int) - 1 - r.f))).drew := by (repeat' (first | (with_reducible exact Below.refl _ _) | (with_reducible assumption) | (with_reducible refine Below.drew ?_) | (with_reducible refine below_drewN ?_ _) | (with_reducible refine Below.setCell ?_ ?_ _) | (with_reducible refine Below.alloc ?_ ?_ _) | (refine Below.trans ?_ (Below.mono (by with_reducible assumption) ?_)) | omega | (exact Below.size (by with_reducible assumption)) | (simp; done) | (simp; omega)))
            clear s0 s1 s2 o7 k0 k7 f0 f7 z1 z2 zf e0 e1 e2 e3 hne1 hne0 hl
            go_wp2
            go_roundg (n2 - (k + 1))
            case measure => omega
            case rel => exact ⟨k + 1, by omega, by go_num, t0, t1, t2, t7, F0', F1', F2', hB'⟩
          · have hkn : n2 = k := by omega
            subst hkn
            rw [List.take_of_length_le (by simp; have := HL2.out; omega), List.drop_eq_nil_of_le (by have := HL2.out; omega), List.append_nil] at F2
            have HC' : Hid (RdC wo (some ⟨g0, 0, none⟩) A1' A2' n0 n1 n2 B.reverse D (R.map (revR B.length))) := by
              have l0 := HL.out
              have l1 := HL1.out
              have l2 := HL2.out
              refine rdC_gro F0 F1 F2 (by simp; omega) (by omega) (by simp; omega) fun r' hr' => ?_
              obtain ⟨r, hr, rfl⟩ := List.mem_map.1 hr'
              have := hV.out.rs r hr
              show -9223372036854775808 ≤ (B.length : Int) - 1 - r.f ∧ (B.length : Int) - 1 - r.f ≤ 9223372036854775807
              omega
            obtain ⟨R', hR'⟩ : ∃ R', R.map (revR B.length) = R' := ⟨_, rfl⟩
            have HR' := Lib.hid hR'
            rw [hR'] at HC'
            obtain ⟨B', hB'⟩ : ∃ B', B.reverse = B' := ⟨_, rfl⟩
            have HB' := Lib.hid hB'
            rw [hB'] at HC'
            clear F0 F1 F2 hR' hB' lg lg2
            obtain ⟨l0, k0, f0⟩ := s0
            have s0 := Own.mk l0 k0 f0
            obtain ⟨l1, k1, f1⟩ := s1
            have s1 := Own.mk l1 k1 f1
            obtain ⟨l2, k2, f2⟩ := s2
            have s2 := Own.mk l2 k2 f2
            obtain ⟨l7, k7, f7⟩ := o7
            have o7 := Own.mk l7 k7 f7
            go_wp2_with fail
            refine (areBends15 _ _ _ _ _ _ _ _ _ _ _ _ _).mono ?_
            cases hp1 : plB n0 f t
            · rintro e w4 ⟨rfl, hb4⟩
              have hB4 : Below w.heap.size w w4 := by (repeat' (first | (with_reducible exact Below.refl _ _) | (with_reducible assumption) | (with_reducible refine Below.drew ?_) | (with_reducible refine below_drewN ?_ _) | (with_reducible refine Below.setCell ?_ ?_ _) | (with_reducible refine Below.alloc ?_ ?_ _) | (refine Below.trans ?_ (Below.mono (by with_reducible assumption) ?_)) | omega | (exact Below.size (by with_reducible assumption)) | (simp; done) | (simp; omega)))
              clear hp1 hb4
              (go_wp2_with fail; refine (works21 _ (HT.out.below hB4 (Nat.le_refl _))).mono ?_; rintro e w9 ⟨rfl, hb9⟩; go_wp2; go_ret; exact ⟨rfl, by (repeat' (first | (with_reducible exact Below.refl _ _) | (with_reducible assumption) | (with_reducible refine Below.drew ?_) | (with_reducible refine below_drewN ?_ _) | (with_reducible refine Below.setCell ?_ ?_ _) | (with_reducible refine Below.alloc ?_ ?_ _) | (refine Below.trans ?_ (Below.mono (by with_reducible assumption) ?_)) | omega | (exact Below.size (by with_reducible assumption)) | (simp; done) | (simp; omega)))⟩)
            · rintro e w4 ⟨rfl, hb4⟩
              have hpp1 := plB_iff.1 hp1
              have HP1 := Lib.hid hp1
              clear hp1
              (clear l0 k0 f0 l1 k1 f1 l2 k2 f2 l7 k7 f7; replace s0 := s0.below hb4 s0.lt; replace s1 := s1.below hb4 s1.lt; replace s2 := s2.below hb4 s2.lt; replace o7 := o7.below hb4 o7.lt; have hB4 := hBr.trans (hb4.mono hBr.size); replace HC' := Lib.hid (HC'.out.below hb4 (Nat.le_refl _)); clear hb4; obtain ⟨l0, k0, f0⟩ := s0; have s0 := Own.mk l0 k0 f0; obtain ⟨l1, k1, f1⟩ := s1; have s1 := Own.mk l1 k1 f1; obtain ⟨l2, k2, f2⟩ := s2; have s2 := Own.mk l2 k2 f2; obtain ⟨l7, k7, f7⟩ := o7; have o7 := Own.mk l7 k7 f7)
              obtain ⟨f, rfl⟩ := Int.eq_ofNat_of_zero_le hpp1.1
              obtain ⟨t, rfl⟩ := Int.eq_ofNat_of_zero_le (show 0 ≤ t by omega)
              have hft : f < t := by omega
              have htn : t < n0 := by omega
              have hnt : t < B.length := by have := HL.out; omega
              have CL : Hid (cntL cw B' D R' o ((n0 : Int) - 1 - t) ((n0 : Int) - 1 - f) = cntL cw B D R o f t) := by show _ = _; rw [HL.out, ← HB'.out, ← HR'.out]; exact cntL_rev H.out hft hnt o
              have CE : Hid (cntE cw B' D R' o ((n0 : Int) - 1 - t) ((n0 : Int) - 1 - f) = cntE cw B D R o f t) := by show _ = _; rw [HL.out, ← HB'.out, ← HR'.out]; exact cntE_rev H.out hft hnt o
              have ON : Hid (opnN cw B' D R' ((n0 : Int) - 1 - t) ((n0 : Int) - 1 - f) m = opnN cw B D R f t m) := by show _ = _; rw [HL.out, ← HB'.out, ← HR'.out]; exact opnN_rev H.out hft hnt m
              have OE : Hid (opnE cw B' D R' ((n0 : Int) - 1 - t) ((n0 : Int) - 1 - f) m = opnE cw B D R f t m) := by show _ = _; rw [HL.out, ← HB'.out, ← HR'.out]; exact opnE_rev H.out hft hnt m
              have GL : Hid (opgL cw B' D R' p = opgL cw B D R p) := by show _ = _; rw [← HB'.out, ← HR'.out]; exact opgL_same H.out (chkE_rev H.out) (sameW_rev hV.out) p
              have GE : Hid (∀ v, opE cw B' D R' v = opE cw B D R v) := by show ∀ v, _ = _; rw [← HB'.out, ← HR'.out]; exact opE_same H.out (chkE_rev H.out) (sameW_rev hV.out)
              have LN : Hid (lonN cw B' D R' p q = lonN cw B D R p q) := by show _ = _; rw [← HB'.out, ← HR'.out]; exact lonN_same H.out (chkE_rev H.out) (sameW_rev hV.out) (lenV_rev hV.out.b1) p q
              have GN : Hid (lngN cw B' D R' o = lngN cw B D R o) := by show _ = _; rw [← HB'.out, ← HR'.out]; exact lngN_same H.out (chkE_rev H.out) (lenV_rev hV.out.b1) o
              have GX : Hid (lngE cw B' D R' o = lngE cw B D R o) := by show _ = _; rw [← HB'.out, ← HR'.out]; exact lngE_same H.out (chkE_rev H.out) (lenV_rev hV.out.b1) o
              have HKL := Lib.hid (cntL_len cw B D R o f t)
              have HGL := Lib.hid (opgL_len (R := R) (cw := cw) hV.out p)
              obtain ⟨ks, hks⟩ : ∃ x, cntL cw B D R o f t = x := ⟨_, rfl⟩
              obtain ⟨E1, hE1⟩ : ∃ x, cntE cw B D R o f t = x := ⟨_, rfl⟩
              obtain ⟨N2, hN2⟩ : ∃ x, opnN cw B D R f t m = x := ⟨_, rfl⟩
              obtain ⟨E2, hE2⟩ : ∃ x, opnE cw B D R f t m = x := ⟨_, rfl⟩
              obtain ⟨gs, hgs⟩ : ∃ x, opgL cw B D R p = x := ⟨_, rfl⟩
              obtain ⟨E3, hE3⟩ : ∃ x, opE cw B D R (isDv D p) = x := ⟨_, rfl⟩
              obtain ⟨N4, hN4⟩ : ∃ x, lonN cw B D R p q = x := ⟨_, rfl⟩
              obtain ⟨E4, hE4⟩ : ∃ x, opE cw B D R (isDv2 D p q) = x := ⟨_, rfl⟩
              obtain ⟨N5, hN5⟩ : ∃ x, lngN cw B D R o = x := ⟨_, rfl⟩
              obtain ⟨E5, hE5⟩ : ∃ x, lngE cw B D R o = x := ⟨_, rfl⟩
              rw [hks] at CL HKL
              rw [hE1] at CE
              rw [hN2] at ON
              rw [hE2] at OE
              rw [hgs] at GL HGL
              rw [hN4] at LN
              rw [hN5] at GN
              rw [hE5] at GX
              have HKS := Lib.hid hks
              have HE1 := Lib.hid hE1
              have HN2 := Lib.hid hN2
              have HE2 := Lib.hid hE2
              have HGS := Lib.hid hgs
              have HE3 := Lib.hid hE3
              have HN4 := Lib.hid hN4
              have HE4 := Lib.hid hE4
              have HN5 := Lib.hid hN5
              have HE5 := Lib.hid hE5
              clear hks hE1 hN2 hE2 hgs hE3 hN4 hE4 hN5 hE5 hpp1
              go_wp2
              go_region
              have hB4' := hB4.drew
              have HC4 : Hid (RdC w4.drew (some ⟨g0, 0, none⟩) A1' A2' n0 n1 n2 B' D R') := Lib.hid (HC'.out.below (b := w4.heap.size) (Below.refl _ _).drew (Nat.le_refl _))
              replace HC' := HC4
              clear HC4 l0 k0 f0 l1 k1 f1 l2 k2 f2 l7 k7 f7 hB4
              have hB4 := hB4'
              replace s0 := s0.drew
              replace s1 := s1.drew
              replace s2 := s2.drew
              replace o7 := o7.drew
              clear hB4'
              obtain ⟨l0, k0, f0⟩ := s0
              have s0 := Own.mk l0 k0 f0
              obtain ⟨l1, k1, f1⟩ := s1
              have s1 := Own.mk l1 k1 f1
              obtain ⟨l2, k2, f2⟩ := s2
              have s2 := Own.mk l2 k2 f2
              obtain ⟨l7, k7, f7⟩ := o7
              have o7 := Own.mk l7 k7 f7
              go_wp2_with fail
              refine (counts22 A0 A1 A2 n0 n1 n2 c0 c1 c2 cw o f t B D R _ (HC.out.below hB4 (Nat.le_refl _)) (by omega) (by omega)).mono ?_
              rw [HKS.out, HE1.out]
              rintro e w5 ⟨A5, c5, rfl, hr5, hb5⟩
              have HR5 := Lib.hid hr5
              clear hr5
              (clear l0 k0 f0 l1 k1 f1 l2 k2 f2 l7 k7 f7; replace s0 := s0.below hb5 s0.lt; replace s1 := s1.below hb5 s1.lt; replace s2 := s2.below hb5 s2.lt; replace o7 := o7.below hb5 o7.lt; have hB5 := hB4.trans (hb5.mono hB4.size); replace HC' := Lib.hid (HC'.out.below hb5 (Nat.le_refl _)); clear hb5; obtain ⟨l0, k0, f0⟩ := s0; have s0 := Own.mk l0 k0 f0; obtain ⟨l1, k1, f1⟩ := s1; have s1 := Own.mk l1 k1 f1; obtain ⟨l2, k2, f2⟩ := s2; have s2 := Own.mk l2 k2 f2; obtain ⟨l7, k7, f7⟩ := o7; have o7 := Own.mk l7 k7 f7)
              clear hB4
              go_wp2_with fail
              refine (counts22 (some ⟨g0, 0, none⟩) A1' A2' n0 n1 n2 c0' c1' c2' cw o ((n0 : Int) - 1 - t) ((n0 : Int) - 1 - f) B' D R' _ HC'.out (by omega) (by omega)).mono ?_
              rw [CL.out, CE.out]
              rintro e w6 ⟨A6, c6, rfl, hr6, hb6⟩
              replace HR5 := Lib.hid (HR5.out.below hb6 (Nat.le_refl _))
              have HR6 := Lib.hid hr6
              clear hr6
              (clear l0 k0 f0 l1 k1 f1 l2 k2 f2 l7 k7 f7; replace s0 := s0.below hb6 s0.lt; replace s1 := s1.below hb6 s1.lt; replace s2 := s2.below hb6 s2.lt; replace o7 := o7.below hb6 o7.lt; have hB6 := hB5.trans (hb6.mono hB5.size); replace HC' := Lib.hid (HC'.out.below hb6 (Nat.le_refl _)); clear hb6; obtain ⟨l0, k0, f0⟩ := s0; have s0 := Own.mk l0 k0 f0; obtain ⟨l1, k1, f1⟩ := s1; have s1 := Own.mk l1 k1 f1; obtain ⟨l2, k2, f2⟩ := s2; have s2 := Own.mk l2 k2 f2; obtain ⟨l7, k7, f7⟩ := o7; have o7 := Own.mk l7 k7 f7)
              clear hB5
              go_wp2_with fail
              refine (opening18 A0 A1 A2 n0 n1 n2 c0 c1 c2 cw f t m B D R _ (HC.out.below hB6 (Nat.le_refl _)) (HT.out.below hB6 (Nat.le_refl _)) (by omega) (by omega)).mono ?_
              rw [HN2.out, HE2.out]
              rintro e w7 ⟨rfl, hb7⟩
              replace HR5 := Lib.hid (HR5.out.below hb7 (Nat.le_refl _))
              replace HR6 := Lib.hid (HR6.out.below hb7 (Nat.le_refl _))
              (clear l0 k0 f0 l1 k1 f1 l2 k2 f2 l7 k7 f7; replace s0 := s0.below hb7 s0.lt; replace s1 := s1.below hb7 s1.lt; replace s2 := s2.below hb7 s2.lt; replace o7 := o7.below hb7 o7.lt; have hB7 := hB6.trans (hb7.mono hB6.size); replace HC' := Lib.hid (HC'.out.below hb7 (Nat.le_refl _)); clear hb7; obtain ⟨l0, k0, f0⟩ := s0; have s0 := Own.mk l0 k0 f0; obtain ⟨l1, k1, f1⟩ := s1; have s1 := Own.mk l1 k1 f1; obtain ⟨l2, k2, f2⟩ := s2; have s2 := Own.mk l2 k2 f2; obtain ⟨l7, k7, f7⟩ := o7; have o7 := Own.mk l7 k7 f7)
              clear hB6
              go_wp2_with fail
              refine (opening18 (some ⟨g0, 0, none⟩) A1' A2' n0 n1 n2 c0' c1' c2' cw ((n0 : Int) - 1 - t) ((n0 : Int) - 1 - f) m B' D R' _ HC'.out (HT.out.below hB7 (Nat.le_refl _)) (by omega) (by omega)).mono ?_
              rw [ON.out, OE.out]
              rintro e w8 ⟨rfl, hb8⟩
              replace HR5 := Lib.hid (HR5.out.below hb8 (Nat.le_refl _))
              replace HR6 := Lib.hid (HR6.out.below hb8 (Nat.le_refl _))
              (clear l0 k0 f0 l1 k1 f1 l2 k2 f2 l7 k7 f7; replace s0 := s0.below hb8 s0.lt; replace s1 := s1.below hb8 s1.lt; replace s2 := s2.below hb8 s2.lt; replace o7 := o7.below hb8 o7.lt; have hB8 := hB7.trans (hb8.mono hB7.size); replace HC' := Lib.hid (HC'.out.below hb8 (Nat.le_refl _)); clear hb8; obtain ⟨l0, k0, f0⟩ := s0; have s0 := Own.mk l0 k0 f0; obtain ⟨l1, k1, f1⟩ := s1; have s1 := Own.mk l1 k1 f1; obtain ⟨l2, k2, f2⟩ := s2; have s2 := Own.mk l2 k2 f2; obtain ⟨l7, k7, f7⟩ := o7; have o7 := Own.mk l7 k7 f7)
              clear hB7
              go_wp2_with fail
              refine (openings28 A0 A1 A2 n0 n1 n2 c0 c1 c2 cw p B D R _ (HC.out.below hB8 (Nat.le_refl _))).mono ?_
              rw [HGS.out, HE3.out]
              rintro e w9 ⟨A9, c9, rfl, hr9, hb9⟩
              replace HR5 := Lib.hid (HR5.out.below hb9 (Nat.le_refl _))
              replace HR6 := Lib.hid (HR6.out.below hb9 (Nat.le_refl _))
              have HR9 := Lib.hid hr9
              clear hr9
              (clear l0 k0 f0 l1 k1 f1 l2 k2 f2 l7 k7 f7; replace s0 := s0.below hb9 s0.lt; replace s1 := s1.below hb9 s1.lt; replace s2 := s2.below hb9 s2.lt; replace o7 := o7.below hb9 o7.lt; have hB9 := hB8.trans (hb9.mono hB8.size); replace HC' := Lib.hid (HC'.out.below hb9 (Nat.le_refl _)); clear hb9; obtain ⟨l0, k0, f0⟩ := s0; have s0 := Own.mk l0 k0 f0; obtain ⟨l1, k1, f1⟩ := s1; have s1 := Own.mk l1 k1 f1; obtain ⟨l2, k2, f2⟩ := s2; have s2 := Own.mk l2 k2 f2; obtain ⟨l7, k7, f7⟩ := o7; have o7 := Own.mk l7 k7 f7)
              clear hB8
              go_wp2_with fail
              refine (openings28 (some ⟨g0, 0, none⟩) A1' A2' n0 n1 n2 c0' c1' c2' cw p B' D R' _ HC'.out).mono ?_
              rw [GL.out, GE.out, HE3.out]
              rintro e w10 ⟨A10, c10, rfl, hr10, hb10⟩
              replace HR5 := Lib.hid (HR5.out.below hb10 (Nat.le_refl _))
              replace HR6 := Lib.hid (HR6.out.below hb10 (Nat.le_refl _))
              replace HR9 := Lib.hid (HR9.out.below hb10 (Nat.le_refl _))
              have HR10 := Lib.hid hr10
              clear hr10
              (clear l0 k0 f0 l1 k1 f1 l2 k2 f2 l7 k7 f7; replace s0 := s0.below hb10 s0.lt; replace s1 := s1.below hb10 s1.lt; replace s2 := s2.below hb10 s2.lt; replace o7 := o7.below hb10 o7.lt; have hB10 := hB9.trans (hb10.mono hB9.size); replace HC' := Lib.hid (HC'.out.below hb10 (Nat.le_refl _)); clear hb10; obtain ⟨l0, k0, f0⟩ := s0; have s0 := Own.mk l0 k0 f0; obtain ⟨l1, k1, f1⟩ := s1; have s1 := Own.mk l1 k1 f1; obtain ⟨l2, k2, f2⟩ := s2; have s2 := Own.mk l2 k2 f2; obtain ⟨l7, k7, f7⟩ := o7; have o7 := Own.mk l7 k7 f7)
              clear hB9
              go_wp2_with fail
              refine (longer29 A0 A1 A2 n0 n1 n2 c0 c1 c2 cw p q B D R _ (HC.out.below hB10 (Nat.le_refl _)) (HT.out.below hB10 (Nat.le_refl _))).mono ?_
              rw [HN4.out, HE4.out]
              rintro e w11 ⟨rfl, hb11⟩
              replace HR5 := Lib.hid (HR5.out.below hb11 (Nat.le_refl _))
              replace HR6 := Lib.hid (HR6.out.below hb11 (Nat.le_refl _))
              replace HR9 := Lib.hid (HR9.out.below hb11 (Nat.le_refl _))
              replace HR10 := Lib.hid (HR10.out.below hb11 (Nat.le_refl _))
              (clear l0 k0 f0 l1 k1 f1 l2 k2 f2 l7 k7 f7; replace s0 := s0.below hb11 s0.lt; replace s1 := s1.below hb11 s1.lt; replace s2 := s2.below hb11 s2.lt; replace o7 := o7.below hb11 o7.lt; have hB11 := hB10.trans (hb11.mono hB10.size); replace HC' := Lib.hid (HC'.out.below hb11 (Nat.le_refl _)); clear hb11; obtain ⟨l0, k0, f0⟩ := s0; have s0 := Own.mk l0 k0 f0; obtain ⟨l1, k1, f1⟩ := s1; have s1 := Own.mk l1 k1 f1; obtain ⟨l2, k2, f2⟩ := s2; have s2 := Own.mk l2 k2 f2; obtain ⟨l7, k7, f7⟩ := o7; have o7 := Own.mk l7 k7 f7)
              clear hB10
              go_wp2_with fail
              refine (longer29 (some ⟨g0, 0, none⟩) A1' A2' n0 n1 n2 c0' c1' c2' cw p q B' D R' _ HC'.out (HT.out.below hB11 (Nat.le_refl _))).mono ?_
              rw [LN.out, GE.out, HE4.out]
              rintro e w12 ⟨rfl, hb12⟩
              replace HR5 := Lib.hid (HR5.out.below hb12 (Nat.le_refl _))
              replace HR6 := Lib.hid (HR6.out.below hb12 (Nat.le_refl _))
              replace HR9 := Lib.hid (HR9.out.below hb12 (Nat.le_refl _))
              replace HR10 := Lib.hid (HR10.out.below hb12 (Nat.le_refl _))
              (clear l0 k0 f0 l1 k1 f1 l2 k2 f2 l7 k7 f7; replace s0 := s0.below hb12 s0.lt; replace s1 := s1.below hb12 s1.lt; replace s2 := s2.below hb12 s2.lt; replace o7 := o7.below hb12 o7.lt; have hB12 := hB11.trans (hb12.mono hB11.size); replace HC' := Lib.hid (HC'.out.below hb12 (Nat.le_refl _)); clear hb12; obtain ⟨l0, k0, f0⟩ := s0; have s0 := Own.mk l0 k0 f0; obtain ⟨l1, k1, f1⟩ := s1; have s1 := Own.mk l1 k1 f1; obtain ⟨l2, k2, f2⟩ := s2; have s2 := Own.mk l2 k2 f2; obtain ⟨l7, k7, f7⟩ := o7; have o7 := Own.mk l7 k7 f7)
              clear hB11
              go_wp2_with fail
              refine (length30 A0 A1 A2 n0 n1 n2 c0 c1 c2 cw o B D R _ (HC.out.below hB12 (Nat.le_refl _)) (HT.out.below hB12 (Nat.le_refl _))).mono ?_
              rw [HN5.out, HE5.out]
              rintro e w13 ⟨rfl, hb13⟩
              replace HR5 := Lib.hid (HR5.out.below hb13 (Nat.le_refl _))
              replace HR6 := Lib.hid (HR6.out.below hb13 (Nat.le_refl _))
              replace HR9 := Lib.hid (HR9.out.below hb13 (Nat.le_refl _))
              replace HR10 := Lib.hid (HR10.out.below hb13 (Nat.le_refl _))
              (clear l0 k0 f0 l1 k1 f1 l2 k2 f2 l7 k7 f7; replace s0 := s0.below hb13 s0.lt; replace s1 := s1.below hb13 s1.lt; replace s2 := s2.below hb13 s2.lt; replace o7 := o7.below hb13 o7.lt; have hB13 := hB12.trans (hb13.mono hB12.size); replace HC' := Lib.hid (HC'.out.below hb13 (Nat.le_refl _)); clear hb13; obtain ⟨l0, k0, f0⟩ := s0; have s0 := Own.mk l0 k0 f0; obtain ⟨l1, k1, f1⟩ := s1; have s1 := Own.mk l1 k1 f1; obtain ⟨l2, k2, f2⟩ := s2; have s2 := Own.mk l2 k2 f2; obtain ⟨l7, k7, f7⟩ := o7; have o7 := Own.mk l7 k7 f7)
              clear hB12
              go_wp2_with fail
              refine (length30 (some ⟨g0, 0, none⟩) A1' A2' n0 n1 n2 c0' c1' c2' cw o B' D R' _ HC'.out (HT.out.below hB13 (Nat.le_refl _))).mono ?_
              rw [GN.out, GX.out]
              rintro e w14 ⟨rfl, hb14⟩
              replace HR5 := Lib.hid (HR5.out.below hb14 (Nat.le_refl _))
              replace HR6 := Lib.hid (HR6.out.below hb14 (Nat.le_refl _))
              replace HR9 := Lib.hid (HR9.out.below hb14 (Nat.le_refl _))
              replace HR10 := Lib.hid (HR10.out.below hb14 (Nat.le_refl _))
              (clear l0 k0 f0 l1 k1 f1 l2 k2 f2 l7 k7 f7; replace s0 := s0.below hb14 s0.lt; replace s1 := s1.below hb14 s1.lt; replace s2 := s2.below hb14 s2.lt; replace o7 := o7.below hb14 o7.lt; have hB14 := hB13.trans (hb14.mono hB13.size); replace HC' := Lib.hid (HC'.out.below hb14 (Nat.le_refl _)); clear hb14; obtain ⟨l0, k0, f0⟩ := s0; have s0 := Own.mk l0 k0 f0; obtain ⟨l1, k1, f1⟩ := s1; have s1 := Own.mk l1 k1 f1; obtain ⟨l2, k2, f2⟩ := s2; have s2 := Own.mk l2 k2 f2; obtain ⟨l7, k7, f7⟩ := o7; have o7 := Own.mk l7 k7 f7)
              clear hB13
              have hks : ks.length ≤ 140737488355328 := by have := HKL.out; omega
              have hgs : gs.length ≤ 140737488355328 := by have := HGL.out; omega
              go_wp2_with fail
              refine (cbB (show decide (ks = ks) = true by simp) (sameInts31 A5 A6 ks.length ks.length c5 c6 ks ks _ HR5.out HR6.out rfl rfl hks hks)).mono ?_
              rintro e w15 ⟨rfl, hb15⟩
              replace HR9 := Lib.hid (HR9.out.below hb15 (Nat.le_refl _))
              replace HR10 := Lib.hid (HR10.out.below hb15 (Nat.le_refl _))
              (clear l0 k0 f0 l1 k1 f1 l2 k2 f2 l7 k7 f7; replace s0 := s0.below hb15 s0.lt; replace s1 := s1.below hb15 s1.lt; replace s2 := s2.below hb15 s2.lt; replace o7 := o7.below hb15 o7.lt; have hB15 := hB14.trans (hb15.mono hB14.size); replace HC' := Lib.hid (HC'.out.below hb15 (Nat.le_refl _)); clear hb15; obtain ⟨l0, k0, f0⟩ := s0; have s0 := Own.mk l0 k0 f0; obtain ⟨l1, k1, f1⟩ := s1; have s1 := Own.mk l1 k1 f1; obtain ⟨l2, k2, f2⟩ := s2; have s2 := Own.mk l2 k2 f2; obtain ⟨l7, k7, f7⟩ := o7; have o7 := Own.mk l7 k7 f7)
              clear hB14
              go_wp2_with fail
              refine (cbB (show decide (gs = gs) = true by simp) (sameInts31 A9 A10 gs.length gs.length c9 c10 gs gs _ HR9.out HR10.out rfl rfl hgs hgs)).mono ?_
              rintro e w16 ⟨rfl, hb16⟩
              (clear l0 k0 f0 l1 k1 f1 l2 k2 f2 l7 k7 f7; replace s0 := s0.below hb16 s0.lt; replace s1 := s1.below hb16 s1.lt; replace s2 := s2.below hb16 s2.lt; replace o7 := o7.below hb16 o7.lt; have hB16 := hB15.trans (hb16.mono hB15.size); replace HC' := Lib.hid (HC'.out.below hb16 (Nat.le_refl _)); clear hb16; obtain ⟨l0, k0, f0⟩ := s0; have s0 := Own.mk l0 k0 f0; obtain ⟨l1, k1, f1⟩ := s1; have s1 := Own.mk l1 k1 f1; obtain ⟨l2, k2, f2⟩ := s2; have s2 := Own.mk l2 k2 f2; obtain ⟨l7, k7, f7⟩ := o7; have o7 := Own.mk l7 k7 f7)
              clear hB15
              (go_wp2_with fail; refine (works21 _ (HT.out.below hB16 (Nat.le_refl _))).mono ?_; rintro e w9 ⟨rfl, hb9⟩; go_wp2; go_ret; exact ⟨rfl, by (repeat' (first | (with_reducible exact Below.refl _ _) | (with_reducible assumption) | (with_reducible refine Below.drew ?_) | (with_reducible refine below_drewN ?_ _) | (with_reducible refine Below.setCell ?_ ?_ _) | (with_reducible refine Below.alloc ?_ ?_ _) | (refine Below.trans ?_ (Below.mono (by with_reducible assumption) ?_)) | omega | (exact Below.size (by with_reducible assumption)) | (simp; done) | (simp; omega)))⟩)

end Go.Proofs.YtibkgnnpmidgfaaDoor
