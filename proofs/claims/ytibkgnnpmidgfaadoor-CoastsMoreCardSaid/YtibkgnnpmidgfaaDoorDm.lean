/- Walks: CoastsMore of the program. -/
import Derived.Test.YtibkgnnpmidgfaaDoorDl
import Derived.Test.YtibkgnnpmidgfaaDoorDj
import Derived.Test.YtibkgnnpmidgfaaDoorAr
namespace Go.Proofs.YtibkgnnpmidgfaaDoor
open Go.RowKit Go.Maps

theorem cells7 {cs : List Value} (hl : cs.length = 7) (h : ∀ (c : Nat) (u : Value), cs[c]? = some u → ∃ a : Int, u = .int .i64 a ∧ (Lit.int .i64 a).wf = true) : ∃ a b c d e f g : Int, cs = [.int .i64 a, .int .i64 b, .int .i64 c, .int .i64 d, .int .i64 e, .int .i64 f, .int .i64 g] := by
  match cs, hl with
  | [x, y, z, t, u, v, s], _ =>
    obtain ⟨a, rfl, _⟩ := h 0 x rfl
    obtain ⟨b, rfl, _⟩ := h 1 y rfl
    obtain ⟨c, rfl, _⟩ := h 2 z rfl
    obtain ⟨d, rfl, _⟩ := h 3 t rfl
    obtain ⟨e, rfl, _⟩ := h 4 u rfl
    obtain ⟨f, rfl, _⟩ := h 5 v rfl
    obtain ⟨g, rfl, _⟩ := h 6 s rfl
    exact ⟨a, b, c, d, e, f, g, rfl⟩

/-- A coast and two copies of it. -/
structure TwoC (W : World) (s0 ga gb nb : Nat) (vs xs : List Value) (X0 X1 X2 Y0 Y1 Y2 : Option Addr) (x0 x1 x2 y0 y1 y2 n0 n1 n2 : Nat) (cw : Int) (B D : List Pt) (R : List Rep) : Prop where
  o : Own W s0 vs
  p : Own W (s0 + 1) xs
  ta : OwnT W ga 26 [.slice X0 n0 x0, .slice X1 n1 x1, .slice X2 n2 x2, .int .i64 cw]
  tb : OwnT W gb 26 [.slice Y0 n0 y0, .slice Y1 n1 y1, .slice Y2 n2 y2, .int .i64 cw]
  a0 : Gro W (s0 + 2) 40 2 (.slice X0 n0 x0) (B.map prow)
  a1 : Gro W (s0 + 2) 33 2 (.slice X1 n1 x1) (D.map prow)
  a2 : Gro W (s0 + 2) 58 4 (.slice X2 n2 x2) (R.map rrow)
  b0 : Gro W nb 40 2 (.slice Y0 n0 y0) (B.map prow)
  b1 : Gro W nb 33 2 (.slice Y1 n1 y1) (D.map prow)
  b2 : Gro W nb 58 4 (.slice Y2 n2 y2) (R.map rrow)
  l0 : ∀ k, (Value.slice X0 n0 x0).ownBlock = some k → s0 + 2 ≤ k ∧ k < nb
  l1 : ∀ k, (Value.slice X1 n1 x1).ownBlock = some k → s0 + 2 ≤ k ∧ k < nb
  l2 : ∀ k, (Value.slice X2 n2 x2).ownBlock = some k → s0 + 2 ≤ k ∧ k < nb
  nb : s0 + 2 ≤ nb
  ab : ga ≠ gb
  ga : s0 + 2 ≤ ga
  gb : s0 + 2 ≤ gb
theorem copy27x (A0 A1 A2 : Option Addr) (n0 n1 n2 c0 c1 c2 : Nat) (cw : Int) (B D : List Pt) (R : List Rep) (w : World) (hC : RdC w A0 A1 A2 n0 n1 n2 B D R) (m0 : n0 ≤ 1000000) (m1 : n1 ≤ 1000000) (m2 : n2 ≤ 1000000) :
    Calls Tryd.prog 27 #[.agg #[.slice A0 n0 c0, .slice A1 n1 c1, .slice A2 n2 c2, .int .i64 cw]] w fun e w' => ∃ X0 X1 X2 x0 x1 x2, e = .returned (.agg #[.slice X0 n0 x0, .slice X1 n1 x1, .slice X2 n2 x2, .int .i64 cw]) ∧ Gro w' w.heap.size 40 2 (.slice X0 n0 x0) (B.map prow) ∧ Gro w' w.heap.size 33 2 (.slice X1 n1 x1) (D.map prow) ∧ Gro w' w.heap.size 58 4 (.slice X2 n2 x2) (R.map rrow) ∧ Below w.heap.size w w' := by
  have h0 := hC.h0
  have h1 := hC.h1
  have h2 := hC.h2
  refine (copy27 A0 A1 A2 n0 n1 n2 c0 c1 c2 cw B D R w hC m0 m1 m2).mono ?_
  rintro e w' ⟨v0, v1, v2, rfl, G0, G1, G2, hb⟩
  obtain ⟨X0, x0, rfl, _⟩ := G0.out
  obtain ⟨X1, x1, rfl, _⟩ := G1.out
  obtain ⟨X2, x2, rfl, _⟩ := G2.out
  rw [List.length_map] at G0 G1 G2
  rw [← h0] at G0
  rw [← h1] at G1
  rw [← h2] at G2
  exact ⟨X0, X1, X2, x0, x1, x2, by simp only [List.length_map, h0, h1, h2], G0, G1, G2, hb⟩

set_option maxRecDepth 100000 in
set_option maxHeartbeats 8000000 in
theorem more7 (A0 A1 A2 : Option Addr) (n0 n1 n2 c0 c1 c2 : Nat) (cw : Int) (xd xf xt xs xi xl xh : Int) (d : Int) (B D : List Pt) (R : List Rep) (w : World) (hC : RdC w A0 A1 A2 n0 n1 n2 B D R) (hT : Tab w) (ht : -9223372036854775808 ≤ xt ∧ xt ≤ 9223372036854775807) :
    Calls Tryd.prog 7 #[.agg #[.slice A0 n0 c0, .slice A1 n1 c1, .slice A2 n2 c2, .int .i64 cw], .agg #[.int .i64 xd, .int .i64 xf, .int .i64 xt, .int .i64 xs, .int .i64 xi, .int .i64 xl, .int .i64 xh], .int .i64 d] w fun e w' => e = .returned (.bool true) ∧ Below w.heap.size w w' := by
  have HC := Lib.hid hC
  have HT := Lib.hid hT
  have HL := Lib.hid hC.h0
  have HL1 := Lib.hid hC.h1
  have HL2 := Lib.hid hC.h2
  have hl1 := hC.l1
  clear hC hT
  have o0 : Own ((w.alloc (.cells #[.slice A0 n0 c0, .slice A1 n1 c1, .slice A2 n2 c2, .int .i64 cw] 26)).alloc (.cells #[.int .i64 xd, .int .i64 xf, .int .i64 xt, .int .i64 xs, .int .i64 xi, .int .i64 xl, .int .i64 xh] 64)) w.heap.size [.slice A0 n0 c0, .slice A1 n1 c1, .slice A2 n2 c2, .int .i64 cw] := (Own.new' _ _ rfl rfl).alloc _
  have o1 : Own ((w.alloc (.cells #[.slice A0 n0 c0, .slice A1 n1 c1, .slice A2 n2 c2, .int .i64 cw] 26)).alloc (.cells #[.int .i64 xd, .int .i64 xf, .int .i64 xt, .int .i64 xs, .int .i64 xi, .int .i64 xl, .int .i64 xh] 64)) (w.heap.size + 1) [.int .i64 xd, .int .i64 xf, .int .i64 xt, .int .i64 xs, .int .i64 xi, .int .i64 xl, .int .i64 xh] := Own.new' _ _ (by simp) rfl
  have oB : Below w.heap.size w ((w.alloc (.cells #[.slice A0 n0 c0, .slice A1 n1 c1, .slice A2 n2 c2, .int .i64 cw] 26)).alloc (.cells #[.int .i64 xd, .int .i64 xf, .int .i64 xt, .int .i64 xs, .int .i64 xi, .int .i64 xl, .int .i64 xh] 64)) := by (repeat' (first | (with_reducible exact Below.refl _ _) | (with_reducible assumption) | (with_reducible refine Below.drew ?_) | (with_reducible refine below_drewN ?_ _) | (with_reducible refine Below.setCell ?_ ?_ _) | (with_reducible refine Below.alloc ?_ ?_ _) | (refine Below.trans ?_ (Below.mono (by with_reducible assumption) ?_)) | omega | (exact Below.size (by with_reducible assumption)) | (simp; done) | (simp; omega)))
  go_enter Tryd.func7, Tryd.ntmps7
  go_wp2_with fail
  refine (ready19 A0 A1 A2 n0 n1 n2 c0 c1 c2 cw B D R _ (HC.out.below oB (Nat.le_refl _))).mono ?_
  rintro e w1 ⟨b, rfl, hrdy, hb1⟩
  have q0 := o0.below hb1 o0.lt
  have q1 := o1.below hb1 o1.lt
  have hB1 : Below w.heap.size w w1 := by (repeat' (first | (with_reducible exact Below.refl _ _) | (with_reducible assumption) | (with_reducible refine Below.drew ?_) | (with_reducible refine below_drewN ?_ _) | (with_reducible refine Below.setCell ?_ ?_ _) | (with_reducible refine Below.alloc ?_ ?_ _) | (refine Below.trans ?_ (Below.mono (by with_reducible assumption) ?_)) | omega | (exact Below.size (by with_reducible assumption)) | (simp; done) | (simp; omega)))
  obtain ⟨l0, k0, f0⟩ := q0
  have q0 := Own.mk l0 k0 f0
  obtain ⟨l1, k1, f1⟩ := q1
  have q1 := Own.mk l1 k1 f1
  clear o0 o1 oB hb1
  cases b
  · (go_wp2_with fail; refine (works21 _ (HT.out.below hB1 (Nat.le_refl _))).mono ?_; rintro e w9 ⟨rfl, hb9⟩; go_wp2; go_ret; exact ⟨rfl, by (repeat' (first | (with_reducible exact Below.refl _ _) | (with_reducible assumption) | (with_reducible refine Below.drew ?_) | (with_reducible refine below_drewN ?_ _) | (with_reducible refine Below.setCell ?_ ?_ _) | (with_reducible refine Below.alloc ?_ ?_ _) | (refine Below.trans ?_ (Below.mono (by with_reducible assumption) ?_)) | omega | (exact Below.size (by with_reducible assumption)) | (simp; done) | (simp; omega)))⟩)
  · have H := Lib.hid (hrdy rfl)
    clear hrdy
    have hV := Lib.hid (val_of (chk_ok H.out))
    by_cases a1 : xl < 0
    · (go_wp2_with fail; refine (works21 _ (HT.out.below hB1 (Nat.le_refl _))).mono ?_; rintro e w9 ⟨rfl, hb9⟩; go_wp2; go_ret; exact ⟨rfl, by (repeat' (first | (with_reducible exact Below.refl _ _) | (with_reducible assumption) | (with_reducible refine Below.drew ?_) | (with_reducible refine below_drewN ?_ _) | (with_reducible refine Below.setCell ?_ ?_ _) | (with_reducible refine Below.alloc ?_ ?_ _) | (refine Below.trans ?_ (Below.mono (by with_reducible assumption) ?_)) | omega | (exact Below.size (by with_reducible assumption)) | (simp; done) | (simp; omega)))⟩)
    by_cases a2 : xh < 0
    · (go_wp2_with fail; refine (works21 _ (HT.out.below hB1 (Nat.le_refl _))).mono ?_; rintro e w9 ⟨rfl, hb9⟩; go_wp2; go_ret; exact ⟨rfl, by (repeat' (first | (with_reducible exact Below.refl _ _) | (with_reducible assumption) | (with_reducible refine Below.drew ?_) | (with_reducible refine below_drewN ?_ _) | (with_reducible refine Below.setCell ?_ ?_ _) | (with_reducible refine Below.alloc ?_ ?_ _) | (refine Below.trans ?_ (Below.mono (by with_reducible assumption) ?_)) | omega | (exact Below.size (by with_reducible assumption)) | (simp; done) | (simp; omega)))⟩)
    by_cases a3 : 60 < xl
    · (go_wp2_with fail; refine (works21 _ (HT.out.below hB1 (Nat.le_refl _))).mono ?_; rintro e w9 ⟨rfl, hb9⟩; go_wp2; go_ret; exact ⟨rfl, by (repeat' (first | (with_reducible exact Below.refl _ _) | (with_reducible assumption) | (with_reducible refine Below.drew ?_) | (with_reducible refine below_drewN ?_ _) | (with_reducible refine Below.setCell ?_ ?_ _) | (with_reducible refine Below.alloc ?_ ?_ _) | (refine Below.trans ?_ (Below.mono (by with_reducible assumption) ?_)) | omega | (exact Below.size (by with_reducible assumption)) | (simp; done) | (simp; omega)))⟩)
    by_cases a4 : 60 < xh
    · (go_wp2_with fail; refine (works21 _ (HT.out.below hB1 (Nat.le_refl _))).mono ?_; rintro e w9 ⟨rfl, hb9⟩; go_wp2; go_ret; exact ⟨rfl, by (repeat' (first | (with_reducible exact Below.refl _ _) | (with_reducible assumption) | (with_reducible refine Below.drew ?_) | (with_reducible refine below_drewN ?_ _) | (with_reducible refine Below.setCell ?_ ?_ _) | (with_reducible refine Below.alloc ?_ ?_ _) | (refine Below.trans ?_ (Below.mono (by with_reducible assumption) ?_)) | omega | (exact Below.size (by with_reducible assumption)) | (simp; done) | (simp; omega)))⟩)
    go_wp2_with fail
    refine (isDivider32 _ _ _ _ _ _ _ _ _ _ _ _ hl1).mono ?_
    cases hdv : btw d 0 ((n1 : Int) - 1)
    · rintro e w2 ⟨rfl, hb2⟩
      have hB2 : Below w.heap.size w w2 := by (repeat' (first | (with_reducible exact Below.refl _ _) | (with_reducible assumption) | (with_reducible refine Below.drew ?_) | (with_reducible refine below_drewN ?_ _) | (with_reducible refine Below.setCell ?_ ?_ _) | (with_reducible refine Below.alloc ?_ ?_ _) | (refine Below.trans ?_ (Below.mono (by with_reducible assumption) ?_)) | omega | (exact Below.size (by with_reducible assumption)) | (simp; done) | (simp; omega)))
      clear hdv hb2
      (go_wp2_with fail; refine (works21 _ (HT.out.below hB2 (Nat.le_refl _))).mono ?_; rintro e w9 ⟨rfl, hb9⟩; go_wp2; go_ret; exact ⟨rfl, by (repeat' (first | (with_reducible exact Below.refl _ _) | (with_reducible assumption) | (with_reducible refine Below.drew ?_) | (with_reducible refine below_drewN ?_ _) | (with_reducible refine Below.setCell ?_ ?_ _) | (with_reducible refine Below.alloc ?_ ?_ _) | (refine Below.trans ?_ (Below.mono (by with_reducible assumption) ?_)) | omega | (exact Below.size (by with_reducible assumption)) | (simp; done) | (simp; omega)))⟩)
    · rintro e w2 ⟨rfl, hb2⟩
      have hB2 : Below w.heap.size w w2 := by (repeat' (first | (with_reducible exact Below.refl _ _) | (with_reducible assumption) | (with_reducible refine Below.drew ?_) | (with_reducible refine below_drewN ?_ _) | (with_reducible refine Below.setCell ?_ ?_ _) | (with_reducible refine Below.alloc ?_ ?_ _) | (refine Below.trans ?_ (Below.mono (by with_reducible assumption) ?_)) | omega | (exact Below.size (by with_reducible assumption)) | (simp; done) | (simp; omega)))
      have hd := btw_iff.1 hdv
      clear hdv
      obtain ⟨d, rfl⟩ := Int.eq_ofNat_of_zero_le hd.1
      have hdn : Hid (d < D.length) := by have := HL1.out; show d < D.length; omega
      have p0 := q0.below hb2 q0.lt
      have p1 := q1.below hb2 q1.lt
      clear q0 q1 l0 k0 f0 l1 k1 f1 hb2 hB1 hd
      obtain ⟨l0, k0, f0⟩ := p0
      have q0 := Own.mk l0 k0 f0
      obtain ⟨l1, k1, f1⟩ := p1
      have q1 := Own.mk l1 k1 f1
      obtain ⟨F, hF⟩ : ∃ x, fewV B D R = x := ⟨_, rfl⟩
      have hFl : F ≤ n2 := by rw [← hF, HL2.out]; exact few_le (spans_of hV.out)
      have hN : Hid (fewN cw B D R = F) := by show _ = _; unfold fewN; rw [if_pos H.out, hF]
      have hE : Hid (fewE cw B D R = 0) := H.out
      obtain ⟨E, hEE⟩ : ∃ x, opE cw B D R true = x := ⟨_, rfl⟩
      have HE := Lib.hid hEE
      have hcase : (E = 0 ∧ (F : Int) ≤ cw) ∨ (E = 3 ∧ cw < F) := by
        rw [opE_iff H.out, hF] at hEE
        split at hEE
        · exact Or.inr ⟨hEE.symm, by assumption⟩
        · exact Or.inl ⟨hEE.symm, by omega⟩
      obtain ⟨M, hM⟩ : ∃ x, manyN cw B D R = x := ⟨_, rfl⟩
      have HM := Lib.hid hM
      clear hF hEE hM
      go_wp2_with fail
      refine (fewest33 A0 A1 A2 n0 n1 n2 c0 c1 c2 cw B D R _ (HC.out.below hB2 (Nat.le_refl _))).mono ?_
      rw [hN.out, hE.out]
      rintro e w3 ⟨rfl, hb3⟩
      have hB3 : Below w.heap.size w w3 := by (repeat' (first | (with_reducible exact Below.refl _ _) | (with_reducible assumption) | (with_reducible refine Below.drew ?_) | (with_reducible refine below_drewN ?_ _) | (with_reducible refine Below.setCell ?_ ?_ _) | (with_reducible refine Below.alloc ?_ ?_ _) | (refine Below.trans ?_ (Below.mono (by with_reducible assumption) ?_)) | omega | (exact Below.size (by with_reducible assumption)) | (simp; done) | (simp; omega)))
      have p0 := q0.below hb3 q0.lt
      have p1 := q1.below hb3 q1.lt
      clear q0 q1 l0 k0 f0 l1 k1 f1 hb3 hB2
      obtain ⟨l0, k0, f0⟩ := p0
      have q0 := Own.mk l0 k0 f0
      obtain ⟨l1, k1, f1⟩ := p1
      have q1 := Own.mk l1 k1 f1
      go_wp2_with fail
      refine (many34 A0 A1 A2 n0 n1 n2 c0 c1 c2 cw B D R _ (HC.out.below hB3 (Nat.le_refl _))).mono ?_
      rw [HM.out, HE.out]
      rintro e w4 ⟨rfl, hb4⟩
      have hB4 : Below w.heap.size w w4 := by (repeat' (first | (with_reducible exact Below.refl _ _) | (with_reducible assumption) | (with_reducible refine Below.drew ?_) | (with_reducible refine below_drewN ?_ _) | (with_reducible refine Below.setCell ?_ ?_ _) | (with_reducible refine Below.alloc ?_ ?_ _) | (refine Below.trans ?_ (Below.mono (by with_reducible assumption) ?_)) | omega | (exact Below.size (by with_reducible assumption)) | (simp; done) | (simp; omega)))
      have p0 := q0.below hb4 q0.lt
      have p1 := q1.below hb4 q1.lt
      clear q0 q1 l0 k0 f0 l1 k1 f1 hb4 hB3
      obtain ⟨l0, k0, f0⟩ := p0
      have q0 := Own.mk l0 k0 f0
      obtain ⟨l1, k1, f1⟩ := p1
      have q1 := Own.mk l1 k1 f1
      have hk := Lib.hid (show E = 0 ∨ E = 3 by rcases hcase with ⟨h, _⟩ | ⟨h, _⟩ <;> simp [h])
      have hx : (!(E == 0) == decide ((F : Int) ≤ cw)) = false := by
        rcases hcase with ⟨rfl, h⟩ | ⟨rfl, h⟩
        · simp [h]
        · have : ¬ (F : Int) ≤ cw := by omega
          simp [this]
      clear hcase
      go_wp2_with (first | (go_at_call 23; refine (isKnown23 _ _ hk.out).mono ?_; rintro e wk ⟨rfl, rfl⟩) | fail)
      have hn0 : n0 ≤ 12 := by have := hV.out.b2; have := HL.out; omega
      have hn1 : n1 ≤ 4 := by have := hV.out.d; have := HL1.out; omega
      have hn2 : n2 ≤ 8 := by have := hV.out.r; have := HL2.out; omega
      have hB := hB4.drew
      have o := q0.drew
      have p := q1.drew
      refine rg_start (fun w' => Own w' w.heap.size [.slice A0 n0 c0, .slice A1 n1 c1, .slice A2 n2 c2, .int .i64 cw]) 8 (by kernel_rfl) rfl ?_
      refine rg_take (fuel := 6) [0, 2] (by kernel_rfl) (by intro _ _ d _ _ h; cases d <;> exact h) rfl (by kernel_rfl) (by kernel_rfl) o ?_
      simp only [pickL, pick1, List.cons_append, List.nil_append]
      clear l0 k0 f0 l1 k1 f1 q0 q1 hB4 hFl hx hk
      rename 0 ≤ (F : Int) ∧ ¬n2 < F => hz9
      clear hz9
      rename ((0 ≤ xl ∧ 0 ≤ xh) ∧ xl ≤ 60) ∧ xh ≤ 60 => hz8
      clear hz8
      (refine wpTake_cons (v := ?_) (Or.inl ⟨by rfl, ?_⟩) ?_; rotate_left; (intro w' hSw; have y0 : w'.cell? ⟨w.heap.size, 0, none⟩ = some (.slice A0 n0 c0) := hSw.c 0; have y1 : w'.cell? ⟨w.heap.size, 1, none⟩ = some (.slice A1 n1 c1) := hSw.c 1; have y2 : w'.cell? ⟨w.heap.size, 2, none⟩ = some (.slice A2 n2 c2) := hSw.c 2; have y3 : w'.cell? ⟨w.heap.size, 3, none⟩ = some (.int .i64 cw) := hSw.c 3; clear hSw; go_simp; (try with_reducible rfl)); (try simp only [Act.put, List.setIfInBounds_toArray, List.set_cons_zero, List.set_cons_succ]))
      (refine wpTake_cons (v := ?_) (Or.inl ⟨by rfl, ?_⟩) ?_; rotate_left; (intro w' hSw; have y0 : w'.cell? ⟨w.heap.size, 0, none⟩ = some (.slice A0 n0 c0) := hSw.c 0; have y1 : w'.cell? ⟨w.heap.size, 1, none⟩ = some (.slice A1 n1 c1) := hSw.c 1; have y2 : w'.cell? ⟨w.heap.size, 2, none⟩ = some (.slice A2 n2 c2) := hSw.c 2; have y3 : w'.cell? ⟨w.heap.size, 3, none⟩ = some (.int .i64 cw) := hSw.c 3; clear hSw; go_simp; (try with_reducible rfl)); (try simp only [Act.put, List.setIfInBounds_toArray, List.set_cons_zero, List.set_cons_succ]))
      refine wpTake_nil ?_
      generalize World.drew _ = W at hB o p ⊢
      generalize hQ : Exit.then _ _ = Q9
      generalize hA : Act.mk _ _ = a0
      have rest : ∀ (ga gb nb : Nat) (X0 X1 X2 Y0 Y1 Y2 : Option Addr) (x0 x1 x2 y0 y1 y2 : Nat) (W : World), Below w.heap.size w W → TwoC W w.heap.size ga gb nb [.slice A0 n0 c0, .slice A1 n1 c1, .slice A2 n2 c2, .int .i64 cw] [.int .i64 xd, .int .i64 xf, .int .i64 xt, .int .i64 xs, .int .i64 xi, .int .i64 xl, .int .i64 xh] X0 X1 X2 Y0 Y1 Y2 x0 x1 x2 y0 y1 y2 n0 n1 n2 cw B D R →
          Q9 .normal ((((a0.put (some 81) (.agg #[.slice X0 n0 x0, .slice X1 n1 x1, .slice X2 n2 x2, .int .i64 cw])).put (some 83) (.agg #[.slice Y0 n0 y0, .slice Y1 n1 y1, .slice Y2 n2 y2, .int .i64 cw])).put (some 11) (.pointer (some ⟨ga, 0, none⟩))).put (some 12) (.pointer (some ⟨gb, 0, none⟩))) W := by
        subst hQ
        subst hA
        intro ga gb nb X0 X1 X2 Y0 Y1 Y2 x0 x1 x2 y0 y1 y2 W hB T
        simp only [Act.put, List.setIfInBounds_toArray, List.set_cons_zero, List.set_cons_succ]
        obtain ⟨o, p, ta, tb, Ga0, Ga1, Ga2, Gb0, Gb1, Gb2, la0, la1, la2, hnb, hab, hga, hgb⟩ := T
        obtain ⟨k0i, hk0, hk1, hk2, hk3⟩ := info_parts info58
        obtain ⟨l0, k0, f0⟩ := o
        have o := Own.mk l0 k0 f0
        obtain ⟨l1, k1, f1⟩ := p
        have p := Own.mk l1 k1 f1
        obtain ⟨la, ka, fa⟩ := ta.own
        have LA := Lib.hid (And.intro la0 (And.intro la1 la2))
        clear la0 la1 la2
        have hr2 : (R.map rrow).length = n2 := by rw [List.length_map, HL2.out]
        have hBx := hB.alloc hB.size (.cells #[.int .i64 xd, .int .i64 xf, .int .i64 xt, .int .i64 xs] 58)
        go_wp2_with (at_builtin; go_must (refine wpList_append_own _ rfl _ _ 24 rfl (w.heap.size + 2) 58 k0i (.agg #[.int .i64 0, .int .i64 0, .int .i64 0, .int .i64 0]) 4 32 Tryd.underlying24 hk0 hk1 hk2 hk3 rfl (by decide) _ _ _ rfl (Ga2.2.alloc _) ⟨W.heap.size, 0, none⟩ 1 1 [.int .i64 xd, .int .i64 xf, .int .i64 xt, .int .i64 xs] rfl rfl (fun j u hj => (by rw [Addr.add_lit, Nat.zero_add]; exact ((OwnT.new W #[.int .i64 xd, .int .i64 xf, .int .i64 xt, .int .i64 xs] 58).own.c j).trans hj)) (by intro u hu; simp at hu; rcases hu with rfl | rfl | rfl | rfl <;> rfl) (by unfold maxLen; omega) (by omega) (by simp; omega) ?_; intro v' W2 hown' hgrow hnil; have g2 := Gro.grown Ga2 (r := [.int .i64 xd, .int .i64 xf, .int .i64 xt, .int .i64 xs]) rfl hown'; have g0 := (Ga0.alloc (.cells #[.int .i64 xd, .int .i64 xf, .int .i64 xt, .int .i64 xs] 58)).keptBy hgrow (Ga0.apart2 Ga2 (by decide)); have g1 := (Ga1.alloc (.cells #[.int .i64 xd, .int .i64 xf, .int .i64 xt, .int .i64 xs] 58)).keptBy hgrow (Ga1.apart2 Ga2 (by decide)); have d0 := (Gb0.alloc (.cells #[.int .i64 xd, .int .i64 xf, .int .i64 xt, .int .i64 xs] 58)).keptBy hgrow (Gb0.above LA.out.2.2); have d1 := (Gb1.alloc (.cells #[.int .i64 xd, .int .i64 xf, .int .i64 xt, .int .i64 xs] 58)).keptBy hgrow (Gb1.above LA.out.2.2); have d2 := (Gb2.alloc (.cells #[.int .i64 xd, .int .i64 xf, .int .i64 xt, .int .i64 xs] 58)).keptBy hgrow (Gb2.above LA.out.2.2); have sa := (ta.below ((Below.refl _ _).alloc (Nat.le_refl _) (.cells #[.int .i64 xd, .int .i64 xf, .int .i64 xt, .int .i64 xs] 58)) ta.lt).keptBy hgrow (fun e => ta.apart Ga2 (by decide) e.symm); have sb := (tb.below ((Below.refl _ _).alloc (Nat.le_refl _) (.cells #[.int .i64 xd, .int .i64 xf, .int .i64 xt, .int .i64 xs] 58)) tb.lt).keptBy hgrow (fun e => tb.apart Ga2 (by decide) e.symm); have o2 := (o.alloc (.cells #[.int .i64 xd, .int .i64 xf, .int .i64 xt, .int .i64 xs] 58)).keptBy hgrow (fun e => by have := LA.out.2.2 _ e.symm; omega); have p2 := (p.alloc (.cells #[.int .i64 xd, .int .i64 xf, .int .i64 xt, .int .i64 xs] 58)).keptBy hgrow (fun e => by have := LA.out.2.2 _ e.symm; omega); have hB2 : Below w.heap.size w W2 := hBx.grown hgrow (by simp; have := hB.size; omega) (fun i hi => by have := LA.out.2.2 i hi; omega); clear hown' hgrow hnil Ga0 Ga1 Ga2 Gb0 Gb1 Gb2 ta tb o p hB hBx l0 k0 f0 l1 k1 f1 la ka fa; obtain ⟨X3, x3, rfl, _⟩ := g2.out; (try rw [List.length_append, hr2] at g2); (try rw [List.length_append, hr2]); (try simp only [List.length_cons, List.length_nil, Nat.zero_add] at g2); (try simp only [List.length_cons, List.length_nil, Nat.zero_add]); obtain ⟨l0, k0, f0⟩ := o2; have o2 := Own.mk l0 k0 f0; obtain ⟨l1, k1, f1⟩ := p2; have p2 := Own.mk l1 k1 f1; obtain ⟨la, ka, fa⟩ := sa.own))
        have ta := sa.set 2 (.slice X3 (n2 + 1) x3)
        have tb := sb.setOther hab.symm 2 (.slice X3 (n2 + 1) x3)
        have o := o2.setOther (a := ⟨ga, 2, none⟩) (by show ga ≠ _; omega) (.slice X3 (n2 + 1) x3)
        have p := p2.setOther (a := ⟨ga, 2, none⟩) (by show ga ≠ _; omega) (.slice X3 (n2 + 1) x3)
        have Ga0 := g0.setRow (j := 2) (sa.apart g0 (by decide)) (.slice X3 (n2 + 1) x3)
        have Ga1 := g1.setRow (j := 2) (sa.apart g1 (by decide)) (.slice X3 (n2 + 1) x3)
        have Ga2 := g2.setRow (j := 2) (sa.apart g2 (by decide)) (.slice X3 (n2 + 1) x3)
        have Gb0 := d0.setRow (j := 2) (sa.apart d0 (by decide)) (.slice X3 (n2 + 1) x3)
        have Gb1 := d1.setRow (j := 2) (sa.apart d1 (by decide)) (.slice X3 (n2 + 1) x3)
        have Gb2 := d2.setRow (j := 2) (sa.apart d2 (by decide)) (.slice X3 (n2 + 1) x3)
        have hB : Below w.heap.size w (W2.setCell ⟨ga, 2, none⟩ (.slice X3 (n2 + 1) x3)) := Below.setCell hB2 (by show w.heap.size ≤ ga; omega) _
        rw [show ((R.map rrow) ++ [[Value.int .i64 xd, .int .i64 xf, .int .i64 xt, .int .i64 xs]]) = (R ++ [(⟨xd, xf, xt, xs⟩ : Rep)]).map rrow by rw [List.map_append]; rfl] at Ga2
        simp only [List.set_cons_zero, List.set_cons_succ] at ta
        clear sa sb o2 p2 g0 g1 g2 d0 d1 d2 hB2 la ka fa l0 k0 f0 l1 k1 f1
        generalize W2.setCell _ _ = W3 at ta tb o p Ga0 Ga1 Ga2 Gb0 Gb1 Gb2 hB ⊢
        obtain ⟨l0, k0, f0⟩ := o
        have o := Own.mk l0 k0 f0
        obtain ⟨l1, k1, f1⟩ := p
        have p := Own.mk l1 k1 f1
        go_wp2_with fail
        refine (isDivider32 _ _ _ _ _ _ _ _ _ _ _ _ hl1).mono ?_
        cases hdv : btw xi 0 ((n1 : Int) - 1)
        · rintro e w4 ⟨rfl, hb4⟩
          clear hdv
          replace ta := ta.below hb4 ta.lt
          replace tb := tb.below hb4 tb.lt
          replace o := o.below hb4 o.lt
          have hB' := hB.trans (hb4.mono hB.size)
          replace Ga0 := Ga0.below hb4 (Nat.le_refl _)
          replace Ga1 := Ga1.below hb4 (Nat.le_refl _)
          replace Ga2 := Ga2.below hb4 (Nat.le_refl _)
          replace Gb0 := Gb0.below hb4 (Nat.le_refl _)
          replace Gb1 := Gb1.below hb4 (Nat.le_refl _)
          replace Gb2 := Gb2.below hb4 (Nat.le_refl _)
          clear hb4 hB p l0 k0 f0 l1 k1 f1
          have hB := hB'
          clear hB'
          obtain ⟨la, ka, fa⟩ := ta.own
          obtain ⟨lb, kb, fb⟩ := tb.own
          obtain ⟨l0, k0, f0⟩ := o
          have o := Own.mk l0 k0 f0
          have HAC : Hid (RdC w4 (X0) X1 X3 n0 n1 (n2 + 1) B D (R ++ [⟨xd, xf, xt, xs⟩])) := by
            refine rdC_gro Ga0 Ga1 Ga2 (by have := HL.out; omega) (by have := HL1.out; omega) (by have := HL2.out; simp; omega) fun r hr => ?_
            rcases List.mem_append.1 hr with h | h
            · exact HC.out.wt r h
            · rw [List.mem_singleton.1 h]; exact ht
          have HBC : Hid (RdC w4 Y0 Y1 Y2 n0 n1 n2 B D R) := rdC_gro Gb0 Gb1 Gb2 (by have := HL.out; omega) (by have := HL1.out; (try rw [List.length_set]); omega) (by have := HL2.out; omega) HC.out.wt
          go_wp2_with fail
          refine (inside35 X0 X1 X3 n0 n1 (n2 + 1) x0 x1 x3 A0 A1 A2 n0 n1 n2 c0 c1 c2 cw d D (R ++ [⟨xd, xf, xt, xs⟩]) B D R _ HAC.out (HC.out.below hB (Nat.le_refl _)) H (show _ → _ from fun _ => narrow_report hV.out _) hdn).mono ?_
          rintro e w8 ⟨rfl, hb8⟩
          clear ka fa la kb fb lb k0 f0 l0
          replace tb := tb.below hb8 tb.lt
          replace o := o.below hb8 o.lt
          have hB8 := hB.trans (hb8.mono hB.size)
          replace HBC := Lib.hid (HBC.out.below hb8 (Nat.le_refl _))
          clear hb8
          obtain ⟨lb, kb, fb⟩ := tb.own
          obtain ⟨l0, k0, f0⟩ := o
          go_wp2_with fail
          refine (inside35 Y0 Y1 Y2 n0 n1 n2 y0 y1 y2 A0 A1 A2 n0 n1 n2 c0 c1 c2 cw d D R B D R _ HBC.out (HC.out.below hB8 (Nat.le_refl _)) H (show _ → _ from fun _ => narrow_same hV.out) hdn).mono ?_
          rintro e w9 ⟨rfl, hb9⟩
          have hB9 := hB8.trans (hb9.mono hB8.size)
          clear kb fb lb k0 f0 l0 hb9
          (go_wp2_with fail; refine (works21 _ (HT.out.below hB9 (Nat.le_refl _))).mono ?_; rintro e w9 ⟨rfl, hb9⟩; go_wp2; go_ret; exact ⟨rfl, by (repeat' (first | (with_reducible exact Below.refl _ _) | (with_reducible assumption) | (with_reducible refine Below.drew ?_) | (with_reducible refine below_drewN ?_ _) | (with_reducible refine Below.setCell ?_ ?_ _) | (with_reducible refine Below.alloc ?_ ?_ _) | (refine Below.trans ?_ (Below.mono (by with_reducible assumption) ?_)) | omega | (exact Below.size (by with_reducible assumption)) | (simp; done) | (simp; omega)))⟩)
        · rintro e w4 ⟨rfl, hb4⟩
          have hd := btw_iff.1 hdv
          clear hdv
          replace ta := ta.below hb4 ta.lt
          replace tb := tb.below hb4 tb.lt
          replace o := o.below hb4 o.lt
          replace p := p.below hb4 p.lt
          have hB' := hB.trans (hb4.mono hB.size)
          replace Ga0 := Ga0.below hb4 (Nat.le_refl _)
          replace Ga1 := Ga1.below hb4 (Nat.le_refl _)
          replace Ga2 := Ga2.below hb4 (Nat.le_refl _)
          replace Gb0 := Gb0.below hb4 (Nat.le_refl _)
          replace Gb1 := Gb1.below hb4 (Nat.le_refl _)
          replace Gb2 := Gb2.below hb4 (Nat.le_refl _)
          clear hb4 hB l0 k0 f0 l1 k1 f1
          have hB := hB'
          clear hB'
          obtain ⟨xi, rfl⟩ := Int.eq_ofNat_of_zero_le hd.1
          have hxi : xi < n1 := by omega
          have hxi' : xi < D.length := by have := HL1.out; omega
          obtain ⟨gb1, y1x, hgb1⟩ := Gb1.some (by rw [List.length_map]; omega)
          have hY1 : Y1 = some ⟨gb1, 0, none⟩ := by cases hgb1; rfl
          subst hY1
          clear hgb1 hd
          have hgl := Gb1.lt
          obtain ⟨hv1, hv2, hv3⟩ := hV.out.ds _ (List.getElem_mem hxi')
          obtain ⟨lo, hlo⟩ : ∃ x, (D[xi]).1 = x := ⟨_, rfl⟩
          obtain ⟨hi, hhi⟩ : ∃ x, (D[xi]).2 = x := ⟨_, rfl⟩
          have hDx : D[xi]? = some (lo, hi) := by rw [List.getElem?_eq_getElem hxi', ← hlo, ← hhi]
          rw [hlo] at hv1 hv2
          rw [hhi] at hv2 hv3
          have HDX := Lib.hid hDx
          have hrow : (D.map prow)[xi]? = some (prow (lo, hi)) := by rw [List.getElem?_map, hDx]; rfl
          have z0 : w4.cell? ⟨gb1, xi * 2, none⟩ = some (.int .i64 lo) := Gb1.cell hrow (c := 0) rfl
          have z1 : w4.cell? ⟨gb1, xi * 2 + 1, none⟩ = some (.int .i64 hi) := Gb1.cell hrow (c := 1) rfl
          have zf := fun j => Gb1.free j
          have hw1 : IntKind.i64.wrap (lo + xl) = lo + xl := IntWalk.i64_in _ (by omega)
          have hw2 : IntKind.i64.wrap (hi - xh) = hi - xh := IntWalk.i64_in _ (by omega)
          obtain ⟨l1, k1, f1⟩ := p
          have p := Own.mk l1 k1 f1
          obtain ⟨lb, kb, fb⟩ := tb.own
          clear hDx hlo hhi
          go_wp2
          go_region
          have hs1 : (prow (lo, hi)).set 0 (Value.int .i64 (lo + xl)) = prow (lo + xl, hi) := rfl
          have u1 := Gb1.set hrow (c := 0) (by omega) (.int .i64 (lo + xl))
          rw [hs1, ← List.map_set, Nat.add_zero] at u1
          have hna : (Value.slice X1 n1 x1).ownBlock ≠ some gb1 := fun e => by have := LA.out.2.1 gb1 e; omega
          have hnta : ga ≠ gb1 := fun e => ta.apart Gb1 (by decide) (by rw [e]; rfl)
          have hntb : gb1 ≠ gb := fun e => tb.apart Gb1 (by decide) (by rw [← e]; rfl)
          replace Ga0 := Ga0.setRow (j := xi * 2) (Ga0.apart Gb1 (by decide)) (.int .i64 (lo + xl))
          replace Ga1 := Ga1.setRow (j := xi * 2) hna (.int .i64 (lo + xl))
          replace Ga2 := Ga2.setRow (j := xi * 2) (Ga2.apart Gb1 (by decide)) (.int .i64 (lo + xl))
          replace Gb0 := Gb0.setRow (j := xi * 2) (Gb0.apart Gb1 (by decide)) (.int .i64 (lo + xl))
          replace Gb2 := Gb2.setRow (j := xi * 2) (Gb2.apart Gb1 (by decide)) (.int .i64 (lo + xl))
          replace ta := (ta.setOther (g := gb1) hnta (xi * 2) (.int .i64 (lo + xl)))
          replace tb := (tb.setOther (g := gb1) hntb.symm (xi * 2) (.int .i64 (lo + xl)))
          replace o := (o.setOther (a := ⟨gb1, xi * 2, none⟩) (by show gb1 ≠ _; omega) (.int .i64 (lo + xl)))
          replace p := (p.setOther (a := ⟨gb1, xi * 2, none⟩) (by show gb1 ≠ _; omega) (.int .i64 (lo + xl)))
          replace hB : Below w.heap.size w (w4.setCell ⟨gb1, xi * 2, none⟩ (.int .i64 (lo + xl))) := Below.setCell hB (by show w.heap.size ≤ gb1; omega) _
          replace Gb1 := u1
          clear u1 hrow z0 z1 zf l1 k1 f1 lb kb fb hs1 hna
          replace o := o.drew
          replace p := p.drew
          replace hB := hB.drew
          have ga0 : Gro (w4.setCell ⟨gb1, xi * 2, none⟩ (.int .i64 (lo + xl))).drew _ _ _ _ _ := Ga0
          have ga1 : Gro (w4.setCell ⟨gb1, xi * 2, none⟩ (.int .i64 (lo + xl))).drew _ _ _ _ _ := Ga1
          have ga2 : Gro (w4.setCell ⟨gb1, xi * 2, none⟩ (.int .i64 (lo + xl))).drew _ _ _ _ _ := Ga2
          have gb0 : Gro (w4.setCell ⟨gb1, xi * 2, none⟩ (.int .i64 (lo + xl))).drew _ _ _ _ _ := Gb0
          have gbx : Gro (w4.setCell ⟨gb1, xi * 2, none⟩ (.int .i64 (lo + xl))).drew _ _ _ _ _ := Gb1
          have gb2 : Gro (w4.setCell ⟨gb1, xi * 2, none⟩ (.int .i64 (lo + xl))).drew _ _ _ _ _ := Gb2
          have tta : OwnT (w4.setCell ⟨gb1, xi * 2, none⟩ (.int .i64 (lo + xl))).drew _ _ _ := ta
          have ttb : OwnT (w4.setCell ⟨gb1, xi * 2, none⟩ (.int .i64 (lo + xl))).drew _ _ _ := tb
          clear Ga0 Ga1 Ga2 Gb0 Gb1 Gb2 ta tb
          generalize World.drew _ = W5 at ga0 ga1 ga2 gb0 gbx gb2 tta ttb o p hB ⊢
          have hrow : ((D.set xi (lo + xl, hi)).map prow)[xi]? = some (prow (lo + xl, hi)) := by rw [List.getElem?_map, List.getElem?_set_self hxi']; rfl
          have z0 : W5.cell? ⟨gb1, xi * 2, none⟩ = some (.int .i64 (lo + xl)) := gbx.cell hrow (c := 0) rfl
          have z1 : W5.cell? ⟨gb1, xi * 2 + 1, none⟩ = some (.int .i64 hi) := gbx.cell hrow (c := 1) rfl
          have zf := fun j => gbx.free j
          obtain ⟨l1, k1, f1⟩ := p
          obtain ⟨lb, kb, fb⟩ := ttb.own
          go_wp2
          go_region
          have hs1 : (prow (lo + xl, hi)).set 1 (Value.int .i64 (hi - xh)) = prow (lo + xl, hi - xh) := rfl
          have u1 := gbx.set hrow (c := 1) (by omega) (.int .i64 (hi - xh))
          rw [hs1, ← List.map_set, List.set_set] at u1
          have hna : (Value.slice X1 n1 x1).ownBlock ≠ some gb1 := fun e => by have := LA.out.2.1 gb1 e; omega
          have Ga0 := ga0.setRow (j := xi * 2 + 1) (ga0.apart gbx (by decide)) (.int .i64 (hi - xh))
          have Ga1 := ga1.setRow (j := xi * 2 + 1) hna (.int .i64 (hi - xh))
          have Ga2 := ga2.setRow (j := xi * 2 + 1) (ga2.apart gbx (by decide)) (.int .i64 (hi - xh))
          have Gb0 := gb0.setRow (j := xi * 2 + 1) (gb0.apart gbx (by decide)) (.int .i64 (hi - xh))
          have Gb2 := gb2.setRow (j := xi * 2 + 1) (gb2.apart gbx (by decide)) (.int .i64 (hi - xh))
          have ta := (tta.setOther (g := gb1) hnta (xi * 2 + 1) (.int .i64 (hi - xh)))
          have tb := (ttb.setOther (g := gb1) hntb.symm (xi * 2 + 1) (.int .i64 (hi - xh)))
          replace o := (o.setOther (a := ⟨gb1, xi * 2 + 1, none⟩) (by show gb1 ≠ _; omega) (.int .i64 (hi - xh))).drew
          replace hB : Below w.heap.size w (W5.setCell ⟨gb1, xi * 2 + 1, none⟩ (.int .i64 (hi - xh))) := Below.setCell hB (by show w.heap.size ≤ gb1; omega) _
          replace hB := hB.drew
          clear z0 z1 zf l1 k1 f1 lb kb fb hs1 hna ga0 ga1 ga2 gb0 gbx gb2 tta ttb hrow
          have ga0 : Gro (W5.setCell ⟨gb1, xi * 2 + 1, none⟩ (.int .i64 (hi - xh))).drew _ _ _ _ _ := Ga0
          have ga1 : Gro (W5.setCell ⟨gb1, xi * 2 + 1, none⟩ (.int .i64 (hi - xh))).drew _ _ _ _ _ := Ga1
          have ga2 : Gro (W5.setCell ⟨gb1, xi * 2 + 1, none⟩ (.int .i64 (hi - xh))).drew _ _ _ _ _ := Ga2
          have gb0 : Gro (W5.setCell ⟨gb1, xi * 2 + 1, none⟩ (.int .i64 (hi - xh))).drew _ _ _ _ _ := Gb0
          have gbx : Gro (W5.setCell ⟨gb1, xi * 2 + 1, none⟩ (.int .i64 (hi - xh))).drew _ _ _ _ _ := u1
          have gb2 : Gro (W5.setCell ⟨gb1, xi * 2 + 1, none⟩ (.int .i64 (hi - xh))).drew _ _ _ _ _ := Gb2
          have tta : OwnT (W5.setCell ⟨gb1, xi * 2 + 1, none⟩ (.int .i64 (hi - xh))).drew _ _ _ := ta
          have ttb : OwnT (W5.setCell ⟨gb1, xi * 2 + 1, none⟩ (.int .i64 (hi - xh))).drew _ _ _ := tb
          clear Ga0 Ga1 Ga2 Gb0 Gb2 ta tb u1
          generalize World.drew _ = W6 at ga0 ga1 ga2 gb0 gbx gb2 tta ttb o hB ⊢
          have HN2 : Hid (chkE cw B (D.set xi (lo + xl, hi - xh)) R = 0 → Narrow B D R (D.set xi (lo + xl, hi - xh)) R) := by
            show _ → _
            intro h
            have e : sAt D xi = (lo, hi) := by unfold sAt; rw [List.getD_eq_getElem?_getD, HDX.out]; rfl
            have h1 := narrow_span (B := B) (D := D) (R := R) (cw := cw) (j := xi) (l := xl) (h := xh) a1 a2
            rw [e] at h1
            exact h1 (val_of (chk_ok h))
          have Ga0 := ga0
          have Ga1 := ga1
          have Ga2 := ga2
          have Gb0 := gb0
          have Gb1 := gbx
          have Gb2 := gb2
          have ta := tta
          have tb := ttb
          clear ga0 ga1 ga2 gb0 gbx gb2 tta ttb
          obtain ⟨la, ka, fa⟩ := ta.own
          obtain ⟨lb, kb, fb⟩ := tb.own
          obtain ⟨l0, k0, f0⟩ := o
          have o := Own.mk l0 k0 f0
          have HAC : Hid (RdC W6 (X0) X1 X3 n0 n1 (n2 + 1) B D (R ++ [⟨xd, xf, xt, xs⟩])) := by
            refine rdC_gro Ga0 Ga1 Ga2 (by have := HL.out; omega) (by have := HL1.out; omega) (by have := HL2.out; simp; omega) fun r hr => ?_
            rcases List.mem_append.1 hr with h | h
            · exact HC.out.wt r h
            · rw [List.mem_singleton.1 h]; exact ht
          have HBC : Hid (RdC W6 Y0 (some ⟨gb1, 0, none⟩) Y2 n0 n1 n2 B (D.set xi (lo + xl, hi - xh)) R) := rdC_gro Gb0 Gb1 Gb2 (by have := HL.out; omega) (by have := HL1.out; (try rw [List.length_set]); omega) (by have := HL2.out; omega) HC.out.wt
          go_wp2_with fail
          refine (inside35 X0 X1 X3 n0 n1 (n2 + 1) x0 x1 x3 A0 A1 A2 n0 n1 n2 c0 c1 c2 cw d D (R ++ [⟨xd, xf, xt, xs⟩]) B D R _ HAC.out (HC.out.below hB (Nat.le_refl _)) H (show _ → _ from fun _ => narrow_report hV.out _) hdn).mono ?_
          rintro e w8 ⟨rfl, hb8⟩
          clear ka fa la kb fb lb k0 f0 l0
          replace tb := tb.below hb8 tb.lt
          replace o := o.below hb8 o.lt
          have hB8 := hB.trans (hb8.mono hB.size)
          replace HBC := Lib.hid (HBC.out.below hb8 (Nat.le_refl _))
          clear hb8
          obtain ⟨lb, kb, fb⟩ := tb.own
          obtain ⟨l0, k0, f0⟩ := o
          go_wp2_with fail
          refine (inside35 Y0 (some ⟨gb1, 0, none⟩) Y2 n0 n1 n2 y0 y1 y2 A0 A1 A2 n0 n1 n2 c0 c1 c2 cw d (D.set xi (lo + xl, hi - xh)) R B D R _ HBC.out (HC.out.below hB8 (Nat.le_refl _)) H (show _ → _ from HN2.out) hdn).mono ?_
          rintro e w9 ⟨rfl, hb9⟩
          have hB9 := hB8.trans (hb9.mono hB8.size)
          clear kb fb lb k0 f0 l0 hb9
          (go_wp2_with fail; refine (works21 _ (HT.out.below hB9 (Nat.le_refl _))).mono ?_; rintro e w9 ⟨rfl, hb9⟩; go_wp2; go_ret; exact ⟨rfl, by (repeat' (first | (with_reducible exact Below.refl _ _) | (with_reducible assumption) | (with_reducible refine Below.drew ?_) | (with_reducible refine below_drewN ?_ _) | (with_reducible refine Below.setCell ?_ ?_ _) | (with_reducible refine Below.alloc ?_ ?_ _) | (refine Below.trans ?_ (Below.mono (by with_reducible assumption) ?_)) | omega | (exact Below.size (by with_reducible assumption)) | (simp; done) | (simp; omega)))⟩)
      clear hQ
      subst hA

      refine rg_many (fuel := 5) [1, 4, 5] rfl (by simp) (by kernel_rfl) (by kernel_rfl) ?_
      intro c hc
      rcases (show c = 1 ∨ c = 4 ∨ c = 5 by simpa using hc) with rfl | rfl | rfl
      · intro K hK
        simp only [pick1, wpHead]
        rw [if_pos (by rfl)]
        go_simp
        refine (copy27x A0 A1 A2 n0 n1 n2 c0 c1 c2 cw B D R _ (HC.out.below hB (Nat.le_refl _)) (by omega) (by omega) (by omega)).mono ?_
        rintro e W' ⟨X0, X1, X2, x0, x1, x2, rfl, Ga0, Ga1, Ga2, hb⟩
        replace Ga0 := Ga0.base (base' := w.heap.size + 2) p.lt
        replace Ga1 := Ga1.base (base' := w.heap.size + 2) p.lt
        replace Ga2 := Ga2.base (base' := w.heap.size + 2) p.lt
        go_wp2_with fail
        replace o := o.below hb o.lt
        replace p := p.below hb p.lt
        refine hK.out _ _ o ?_
        replace hB := hB.trans (hb.mono hB.size)
        clear hb hK
        (try simp only [Act.put, List.setIfInBounds_toArray, List.set_cons_zero, List.set_cons_succ])
        refine rg_many (fuel := 4) [3, 4, 5] rfl (by simp) (by kernel_rfl) (by kernel_rfl) ?_
        intro c hc
        rcases (show c = 3 ∨ c = 4 ∨ c = 5 by simpa using hc) with rfl | rfl | rfl
        · intro K hK
          simp only [pick1, wpHead]
          rw [if_pos (by rfl)]
          go_simp
          refine (copy27x A0 A1 A2 n0 n1 n2 c0 c1 c2 cw B D R _ (HC.out.below hB (Nat.le_refl _)) (by omega) (by omega) (by omega)).mono ?_
          rintro e W' ⟨Y0, Y1, Y2, y0, y1, y2, rfl, Gb0, Gb1, Gb2, hb⟩
          have hnb := p.lt
          have la0 := Ga0.2.lt
          have la1 := Ga1.2.lt
          have la2 := Ga2.2.lt
          generalize hnbe : World.heap _ = hp at Gb0 Gb1 Gb2 la0 la1 la2 hnb
          generalize hnbe : Array.size hp = nb at Gb0 Gb1 Gb2 la0 la1 la2 hnb
          go_wp2_with fail
          replace o := o.below hb o.lt
          replace p := p.below hb p.lt
          refine hK.out _ _ o ?_
          replace hB := hB.trans (hb.mono hB.size)
          replace Ga0 := Ga0.below hb (Nat.le_refl _)
          replace Ga1 := Ga1.below hb (Nat.le_refl _)
          replace Ga2 := Ga2.below hb (Nat.le_refl _)
          clear hb hK
          (try simp only [Act.put, List.setIfInBounds_toArray, List.set_cons_zero, List.set_cons_succ])
          refine rg_many (fuel := 3) [4, 5] rfl (by simp) (by kernel_rfl) (by kernel_rfl) ?_
          intro c hc
          rcases (show c = 4 ∨ c = 5 by simpa using hc) with rfl | rfl
          · intro K hK
            simp only [pick1, wpHead]
            rw [if_pos (by rfl)]
            go_simp
            have hg := p.lt
            have ta := OwnT.new W' #[.slice none 0 0, .slice none 0 0, .slice none 0 0, .int .i64 0] 26
            have hb := (Below.refl W'.heap.size W').alloc (Nat.le_refl _) (.cells #[.slice none 0 0, .slice none 0 0, .slice none 0 0, .int .i64 0] 26)
            have hga : w.heap.size + 2 ≤ W'.heap.size := p.lt
            obtain ⟨ga, hge⟩ : ∃ g, g = W'.heap.size := ⟨_, rfl⟩
            rw [← hge] at ta hga ⊢
            generalize hWe : World.alloc W' _ = W' at hb ta ⊢
            clear hge hWe hg
            replace o := o.below hb o.lt
            replace p := p.below hb p.lt
            refine hK.out _ _ o ?_
            replace hB := hB.trans (hb.mono hB.size)
            replace Ga0 := Ga0.below hb (Nat.le_refl _)
            replace Ga1 := Ga1.below hb (Nat.le_refl _)
            replace Ga2 := Ga2.below hb (Nat.le_refl _)
            replace Gb0 := Gb0.below hb (Nat.le_refl _)
            replace Gb1 := Gb1.below hb (Nat.le_refl _)
            replace Gb2 := Gb2.below hb (Nat.le_refl _)
            clear hb hK
            (try simp only [Act.put, List.setIfInBounds_toArray, List.set_cons_zero, List.set_cons_succ])
            refine rg_many (fuel := 2) [5] rfl (by simp) (by kernel_rfl) (by kernel_rfl) ?_
            intro c hc
            rcases (show c = 5 by simpa using hc) with rfl
            · intro K hK
              simp only [pick1, wpHead]
              rw [if_pos (by rfl)]
              go_simp
              have hg := p.lt
              have tb := OwnT.new W' #[.slice none 0 0, .slice none 0 0, .slice none 0 0, .int .i64 0] 26
              have hb := (Below.refl W'.heap.size W').alloc (Nat.le_refl _) (.cells #[.slice none 0 0, .slice none 0 0, .slice none 0 0, .int .i64 0] 26)
              have habx := ta.lt
              have hgb : w.heap.size + 2 ≤ W'.heap.size := p.lt
              obtain ⟨gb, hge⟩ : ∃ g, g = W'.heap.size := ⟨_, rfl⟩
              rw [← hge] at tb hgb habx ⊢
              generalize hWe : World.alloc W' _ = W' at hb tb ⊢
              have hab : ga ≠ gb := by omega
              clear hge hWe hg
              replace o := o.below hb o.lt
              replace p := p.below hb p.lt
              refine hK.out _ _ o ?_
              replace hB := hB.trans (hb.mono hB.size)
              replace Ga0 := Ga0.below hb (Nat.le_refl _)
              replace Ga1 := Ga1.below hb (Nat.le_refl _)
              replace Ga2 := Ga2.below hb (Nat.le_refl _)
              replace Gb0 := Gb0.below hb (Nat.le_refl _)
              replace Gb1 := Gb1.below hb (Nat.le_refl _)
              replace Gb2 := Gb2.below hb (Nat.le_refl _)
              replace ta := ta.below hb ta.lt
              clear hb hK
              (try simp only [Act.put, List.setIfInBounds_toArray, List.set_cons_zero, List.set_cons_succ])
              refine rg_one (fuel := 1) 6 rfl (by kernel_rfl) (by kernel_rfl) ?_
              simp only [pick1, wpHead]
              intro K hK
              rw [if_pos (by rfl)]
              obtain ⟨ly, ky, fy⟩ := ta.own
              go_simp
              refine hK.out _ _ (put4_other o (by omega)) ?_
              clear hK K ly ky fy
              replace Ga0 := put4_gro (x0 := .slice X0 n0 x0) (x1 := .slice X1 n1 x1) (x2 := .slice X2 n2 x2) (x3 := .int .i64 cw) Ga0 (ta.apart Ga0 (by decide))
              replace Gb0 := put4_gro (x0 := .slice X0 n0 x0) (x1 := .slice X1 n1 x1) (x2 := .slice X2 n2 x2) (x3 := .int .i64 cw) Gb0 (ta.apart Gb0 (by decide))
              replace Ga1 := put4_gro (x0 := .slice X0 n0 x0) (x1 := .slice X1 n1 x1) (x2 := .slice X2 n2 x2) (x3 := .int .i64 cw) Ga1 (ta.apart Ga1 (by decide))
              replace Gb1 := put4_gro (x0 := .slice X0 n0 x0) (x1 := .slice X1 n1 x1) (x2 := .slice X2 n2 x2) (x3 := .int .i64 cw) Gb1 (ta.apart Gb1 (by decide))
              replace Ga2 := put4_gro (x0 := .slice X0 n0 x0) (x1 := .slice X1 n1 x1) (x2 := .slice X2 n2 x2) (x3 := .int .i64 cw) Ga2 (ta.apart Ga2 (by decide))
              replace Gb2 := put4_gro (x0 := .slice X0 n0 x0) (x1 := .slice X1 n1 x1) (x2 := .slice X2 n2 x2) (x3 := .int .i64 cw) Gb2 (ta.apart Gb2 (by decide))
              replace o := put4_other (x0 := .slice X0 n0 x0) (x1 := .slice X1 n1 x1) (x2 := .slice X2 n2 x2) (x3 := .int .i64 cw) (g := ga) o (by omega)
              replace p := put4_other (x0 := .slice X0 n0 x0) (x1 := .slice X1 n1 x1) (x2 := .slice X2 n2 x2) (x3 := .int .i64 cw) (g := ga) p (by omega)
              replace hB := put4_below (x0 := .slice X0 n0 x0) (x1 := .slice X1 n1 x1) (x2 := .slice X2 n2 x2) (x3 := .int .i64 cw) (g := ga) hB (by omega)
              replace tb := put4_ownT (x0 := .slice X0 n0 x0) (x1 := .slice X1 n1 x1) (x2 := .slice X2 n2 x2) (x3 := .int .i64 cw) (g := ga) tb (by omega)
              replace ta := put4_own (x0 := .slice X0 n0 x0) (x1 := .slice X1 n1 x1) (x2 := .slice X2 n2 x2) (x3 := .int .i64 cw) ta
              simp only [put4] at Ga0 Ga1 Ga2 Gb0 Gb1 Gb2 o p hB ta tb
              refine rg_one (fuel := 0) 7 rfl (by kernel_rfl) (by kernel_rfl) ?_
              simp only [pick1, wpHead]
              intro K hK
              rw [if_pos (by rfl)]
              obtain ⟨ly, ky, fy⟩ := tb.own
              go_simp
              refine hK.out _ _ (put4_other o (by omega)) ?_
              clear hK K ly ky fy
              replace Ga0 := put4_gro (x0 := .slice Y0 n0 y0) (x1 := .slice Y1 n1 y1) (x2 := .slice Y2 n2 y2) (x3 := .int .i64 cw) Ga0 (tb.apart Ga0 (by decide))
              replace Gb0 := put4_gro (x0 := .slice Y0 n0 y0) (x1 := .slice Y1 n1 y1) (x2 := .slice Y2 n2 y2) (x3 := .int .i64 cw) Gb0 (tb.apart Gb0 (by decide))
              replace Ga1 := put4_gro (x0 := .slice Y0 n0 y0) (x1 := .slice Y1 n1 y1) (x2 := .slice Y2 n2 y2) (x3 := .int .i64 cw) Ga1 (tb.apart Ga1 (by decide))
              replace Gb1 := put4_gro (x0 := .slice Y0 n0 y0) (x1 := .slice Y1 n1 y1) (x2 := .slice Y2 n2 y2) (x3 := .int .i64 cw) Gb1 (tb.apart Gb1 (by decide))
              replace Ga2 := put4_gro (x0 := .slice Y0 n0 y0) (x1 := .slice Y1 n1 y1) (x2 := .slice Y2 n2 y2) (x3 := .int .i64 cw) Ga2 (tb.apart Ga2 (by decide))
              replace Gb2 := put4_gro (x0 := .slice Y0 n0 y0) (x1 := .slice Y1 n1 y1) (x2 := .slice Y2 n2 y2) (x3 := .int .i64 cw) Gb2 (tb.apart Gb2 (by decide))
              replace o := put4_other (x0 := .slice Y0 n0 y0) (x1 := .slice Y1 n1 y1) (x2 := .slice Y2 n2 y2) (x3 := .int .i64 cw) (g := gb) o (by omega)
              replace p := put4_other (x0 := .slice Y0 n0 y0) (x1 := .slice Y1 n1 y1) (x2 := .slice Y2 n2 y2) (x3 := .int .i64 cw) (g := gb) p (by omega)
              replace hB := put4_below (x0 := .slice Y0 n0 y0) (x1 := .slice Y1 n1 y1) (x2 := .slice Y2 n2 y2) (x3 := .int .i64 cw) (g := gb) hB (by omega)
              replace ta := put4_ownT (x0 := .slice Y0 n0 y0) (x1 := .slice Y1 n1 y1) (x2 := .slice Y2 n2 y2) (x3 := .int .i64 cw) (g := gb) ta (by omega)
              replace tb := put4_own (x0 := .slice Y0 n0 y0) (x1 := .slice Y1 n1 y1) (x2 := .slice Y2 n2 y2) (x3 := .int .i64 cw) tb
              simp only [put4] at Ga0 Ga1 Ga2 Gb0 Gb1 Gb2 o p hB ta tb
              refine rg_done (by kernel_rfl) ?_
              have r := rest ga gb nb X0 X1 X2 Y0 Y1 Y2 x0 x1 x2 y0 y1 y2 _ hB ⟨o, p, ta, tb, Ga0, Ga1, Ga2, Gb0, Gb1, Gb2, la0, la1, la2, hnb, hab, hga, hgb⟩
              simp only [Act.put, List.setIfInBounds_toArray, List.set_cons_zero, List.set_cons_succ] at r
              (try simp only [Act.put, List.setIfInBounds_toArray, List.set_cons_zero, List.set_cons_succ])
              exact r
          · intro K hK
            simp only [pick1, wpHead]
            rw [if_pos (by rfl)]
            go_simp
            have hg := p.lt
            have tb := OwnT.new W' #[.slice none 0 0, .slice none 0 0, .slice none 0 0, .int .i64 0] 26
            have hb := (Below.refl W'.heap.size W').alloc (Nat.le_refl _) (.cells #[.slice none 0 0, .slice none 0 0, .slice none 0 0, .int .i64 0] 26)
            have hgb : w.heap.size + 2 ≤ W'.heap.size := p.lt
            obtain ⟨gb, hge⟩ : ∃ g, g = W'.heap.size := ⟨_, rfl⟩
            rw [← hge] at tb hgb ⊢
            generalize hWe : World.alloc W' _ = W' at hb tb ⊢
            clear hge hWe hg
            replace o := o.below hb o.lt
            replace p := p.below hb p.lt
            refine hK.out _ _ o ?_
            replace hB := hB.trans (hb.mono hB.size)
            replace Ga0 := Ga0.below hb (Nat.le_refl _)
            replace Ga1 := Ga1.below hb (Nat.le_refl _)
            replace Ga2 := Ga2.below hb (Nat.le_refl _)
            replace Gb0 := Gb0.below hb (Nat.le_refl _)
            replace Gb1 := Gb1.below hb (Nat.le_refl _)
            replace Gb2 := Gb2.below hb (Nat.le_refl _)
            clear hb hK
            (try simp only [Act.put, List.setIfInBounds_toArray, List.set_cons_zero, List.set_cons_succ])
            refine rg_many (fuel := 2) [4] rfl (by simp) (by kernel_rfl) (by kernel_rfl) ?_
            intro c hc
            rcases (show c = 4 by simpa using hc) with rfl
            · intro K hK
              simp only [pick1, wpHead]
              rw [if_pos (by rfl)]
              go_simp
              have hg := p.lt
              have ta := OwnT.new W' #[.slice none 0 0, .slice none 0 0, .slice none 0 0, .int .i64 0] 26
              have hb := (Below.refl W'.heap.size W').alloc (Nat.le_refl _) (.cells #[.slice none 0 0, .slice none 0 0, .slice none 0 0, .int .i64 0] 26)
              have habx := tb.lt
              have hga : w.heap.size + 2 ≤ W'.heap.size := p.lt
              obtain ⟨ga, hge⟩ : ∃ g, g = W'.heap.size := ⟨_, rfl⟩
              rw [← hge] at ta hga habx ⊢
              generalize hWe : World.alloc W' _ = W' at hb ta ⊢
              have hab : ga ≠ gb := by omega
              clear hge hWe hg
              replace o := o.below hb o.lt
              replace p := p.below hb p.lt
              refine hK.out _ _ o ?_
              replace hB := hB.trans (hb.mono hB.size)
              replace Ga0 := Ga0.below hb (Nat.le_refl _)
              replace Ga1 := Ga1.below hb (Nat.le_refl _)
              replace Ga2 := Ga2.below hb (Nat.le_refl _)
              replace Gb0 := Gb0.below hb (Nat.le_refl _)
              replace Gb1 := Gb1.below hb (Nat.le_refl _)
              replace Gb2 := Gb2.below hb (Nat.le_refl _)
              replace tb := tb.below hb tb.lt
              clear hb hK
              (try simp only [Act.put, List.setIfInBounds_toArray, List.set_cons_zero, List.set_cons_succ])
              refine rg_one (fuel := 1) 6 rfl (by kernel_rfl) (by kernel_rfl) ?_
              simp only [pick1, wpHead]
              intro K hK
              rw [if_pos (by rfl)]
              obtain ⟨ly, ky, fy⟩ := ta.own
              go_simp
              refine hK.out _ _ (put4_other o (by omega)) ?_
              clear hK K ly ky fy
              replace Ga0 := put4_gro (x0 := .slice X0 n0 x0) (x1 := .slice X1 n1 x1) (x2 := .slice X2 n2 x2) (x3 := .int .i64 cw) Ga0 (ta.apart Ga0 (by decide))
              replace Gb0 := put4_gro (x0 := .slice X0 n0 x0) (x1 := .slice X1 n1 x1) (x2 := .slice X2 n2 x2) (x3 := .int .i64 cw) Gb0 (ta.apart Gb0 (by decide))
              replace Ga1 := put4_gro (x0 := .slice X0 n0 x0) (x1 := .slice X1 n1 x1) (x2 := .slice X2 n2 x2) (x3 := .int .i64 cw) Ga1 (ta.apart Ga1 (by decide))
              replace Gb1 := put4_gro (x0 := .slice X0 n0 x0) (x1 := .slice X1 n1 x1) (x2 := .slice X2 n2 x2) (x3 := .int .i64 cw) Gb1 (ta.apart Gb1 (by decide))
              replace Ga2 := put4_gro (x0 := .slice X0 n0 x0) (x1 := .slice X1 n1 x1) (x2 := .slice X2 n2 x2) (x3 := .int .i64 cw) Ga2 (ta.apart Ga2 (by decide))
              replace Gb2 := put4_gro (x0 := .slice X0 n0 x0) (x1 := .slice X1 n1 x1) (x2 := .slice X2 n2 x2) (x3 := .int .i64 cw) Gb2 (ta.apart Gb2 (by decide))
              replace o := put4_other (x0 := .slice X0 n0 x0) (x1 := .slice X1 n1 x1) (x2 := .slice X2 n2 x2) (x3 := .int .i64 cw) (g := ga) o (by omega)
              replace p := put4_other (x0 := .slice X0 n0 x0) (x1 := .slice X1 n1 x1) (x2 := .slice X2 n2 x2) (x3 := .int .i64 cw) (g := ga) p (by omega)
              replace hB := put4_below (x0 := .slice X0 n0 x0) (x1 := .slice X1 n1 x1) (x2 := .slice X2 n2 x2) (x3 := .int .i64 cw) (g := ga) hB (by omega)
              replace tb := put4_ownT (x0 := .slice X0 n0 x0) (x1 := .slice X1 n1 x1) (x2 := .slice X2 n2 x2) (x3 := .int .i64 cw) (g := ga) tb (by omega)
              replace ta := put4_own (x0 := .slice X0 n0 x0) (x1 := .slice X1 n1 x1) (x2 := .slice X2 n2 x2) (x3 := .int .i64 cw) ta
              simp only [put4] at Ga0 Ga1 Ga2 Gb0 Gb1 Gb2 o p hB ta tb
              refine rg_one (fuel := 0) 7 rfl (by kernel_rfl) (by kernel_rfl) ?_
              simp only [pick1, wpHead]
              intro K hK
              rw [if_pos (by rfl)]
              obtain ⟨ly, ky, fy⟩ := tb.own
              go_simp
              refine hK.out _ _ (put4_other o (by omega)) ?_
              clear hK K ly ky fy
              replace Ga0 := put4_gro (x0 := .slice Y0 n0 y0) (x1 := .slice Y1 n1 y1) (x2 := .slice Y2 n2 y2) (x3 := .int .i64 cw) Ga0 (tb.apart Ga0 (by decide))
              replace Gb0 := put4_gro (x0 := .slice Y0 n0 y0) (x1 := .slice Y1 n1 y1) (x2 := .slice Y2 n2 y2) (x3 := .int .i64 cw) Gb0 (tb.apart Gb0 (by decide))
              replace Ga1 := put4_gro (x0 := .slice Y0 n0 y0) (x1 := .slice Y1 n1 y1) (x2 := .slice Y2 n2 y2) (x3 := .int .i64 cw) Ga1 (tb.apart Ga1 (by decide))
              replace Gb1 := put4_gro (x0 := .slice Y0 n0 y0) (x1 := .slice Y1 n1 y1) (x2 := .slice Y2 n2 y2) (x3 := .int .i64 cw) Gb1 (tb.apart Gb1 (by decide))
              replace Ga2 := put4_gro (x0 := .slice Y0 n0 y0) (x1 := .slice Y1 n1 y1) (x2 := .slice Y2 n2 y2) (x3 := .int .i64 cw) Ga2 (tb.apart Ga2 (by decide))
              replace Gb2 := put4_gro (x0 := .slice Y0 n0 y0) (x1 := .slice Y1 n1 y1) (x2 := .slice Y2 n2 y2) (x3 := .int .i64 cw) Gb2 (tb.apart Gb2 (by decide))
              replace o := put4_other (x0 := .slice Y0 n0 y0) (x1 := .slice Y1 n1 y1) (x2 := .slice Y2 n2 y2) (x3 := .int .i64 cw) (g := gb) o (by omega)
              replace p := put4_other (x0 := .slice Y0 n0 y0) (x1 := .slice Y1 n1 y1) (x2 := .slice Y2 n2 y2) (x3 := .int .i64 cw) (g := gb) p (by omega)
              replace hB := put4_below (x0 := .slice Y0 n0 y0) (x1 := .slice Y1 n1 y1) (x2 := .slice Y2 n2 y2) (x3 := .int .i64 cw) (g := gb) hB (by omega)
              replace ta := put4_ownT (x0 := .slice Y0 n0 y0) (x1 := .slice Y1 n1 y1) (x2 := .slice Y2 n2 y2) (x3 := .int .i64 cw) (g := gb) ta (by omega)
              replace tb := put4_own (x0 := .slice Y0 n0 y0) (x1 := .slice Y1 n1 y1) (x2 := .slice Y2 n2 y2) (x3 := .int .i64 cw) tb
              simp only [put4] at Ga0 Ga1 Ga2 Gb0 Gb1 Gb2 o p hB ta tb
              refine rg_done (by kernel_rfl) ?_
              have r := rest ga gb nb X0 X1 X2 Y0 Y1 Y2 x0 x1 x2 y0 y1 y2 _ hB ⟨o, p, ta, tb, Ga0, Ga1, Ga2, Gb0, Gb1, Gb2, la0, la1, la2, hnb, hab, hga, hgb⟩
              simp only [Act.put, List.setIfInBounds_toArray, List.set_cons_zero, List.set_cons_succ] at r
              (try simp only [Act.put, List.setIfInBounds_toArray, List.set_cons_zero, List.set_cons_succ])
              exact r
        · intro K hK
          simp only [pick1, wpHead]
          rw [if_pos (by rfl)]
          go_simp
          have hg := p.lt
          have ta := OwnT.new W' #[.slice none 0 0, .slice none 0 0, .slice none 0 0, .int .i64 0] 26
          have hb := (Below.refl W'.heap.size W').alloc (Nat.le_refl _) (.cells #[.slice none 0 0, .slice none 0 0, .slice none 0 0, .int .i64 0] 26)
          have hga : w.heap.size + 2 ≤ W'.heap.size := p.lt
          obtain ⟨ga, hge⟩ : ∃ g, g = W'.heap.size := ⟨_, rfl⟩
          rw [← hge] at ta hga ⊢
          generalize hWe : World.alloc W' _ = W' at hb ta ⊢
          clear hge hWe hg
          replace o := o.below hb o.lt
          replace p := p.below hb p.lt
          refine hK.out _ _ o ?_
          replace hB := hB.trans (hb.mono hB.size)
          replace Ga0 := Ga0.below hb (Nat.le_refl _)
          replace Ga1 := Ga1.below hb (Nat.le_refl _)
          replace Ga2 := Ga2.below hb (Nat.le_refl _)
          clear hb hK
          (try simp only [Act.put, List.setIfInBounds_toArray, List.set_cons_zero, List.set_cons_succ])
          refine rg_many (fuel := 3) [3, 5] rfl (by simp) (by kernel_rfl) (by kernel_rfl) ?_
          intro c hc
          rcases (show c = 3 ∨ c = 5 by simpa using hc) with rfl | rfl
          · intro K hK
            simp only [pick1, wpHead]
            rw [if_pos (by rfl)]
            go_simp
            refine (copy27x A0 A1 A2 n0 n1 n2 c0 c1 c2 cw B D R _ (HC.out.below hB (Nat.le_refl _)) (by omega) (by omega) (by omega)).mono ?_
            rintro e W' ⟨Y0, Y1, Y2, y0, y1, y2, rfl, Gb0, Gb1, Gb2, hb⟩
            have hnb := p.lt
            have la0 := Ga0.2.lt
            have la1 := Ga1.2.lt
            have la2 := Ga2.2.lt
            generalize hnbe : World.heap _ = hp at Gb0 Gb1 Gb2 la0 la1 la2 hnb
            generalize hnbe : Array.size hp = nb at Gb0 Gb1 Gb2 la0 la1 la2 hnb
            go_wp2_with fail
            replace o := o.below hb o.lt
            replace p := p.below hb p.lt
            refine hK.out _ _ o ?_
            replace hB := hB.trans (hb.mono hB.size)
            replace Ga0 := Ga0.below hb (Nat.le_refl _)
            replace Ga1 := Ga1.below hb (Nat.le_refl _)
            replace Ga2 := Ga2.below hb (Nat.le_refl _)
            replace ta := ta.below hb ta.lt
            clear hb hK
            (try simp only [Act.put, List.setIfInBounds_toArray, List.set_cons_zero, List.set_cons_succ])
            refine rg_many (fuel := 2) [5] rfl (by simp) (by kernel_rfl) (by kernel_rfl) ?_
            intro c hc
            rcases (show c = 5 by simpa using hc) with rfl
            · intro K hK
              simp only [pick1, wpHead]
              rw [if_pos (by rfl)]
              go_simp
              have hg := p.lt
              have tb := OwnT.new W' #[.slice none 0 0, .slice none 0 0, .slice none 0 0, .int .i64 0] 26
              have hb := (Below.refl W'.heap.size W').alloc (Nat.le_refl _) (.cells #[.slice none 0 0, .slice none 0 0, .slice none 0 0, .int .i64 0] 26)
              have habx := ta.lt
              have hgb : w.heap.size + 2 ≤ W'.heap.size := p.lt
              obtain ⟨gb, hge⟩ : ∃ g, g = W'.heap.size := ⟨_, rfl⟩
              rw [← hge] at tb hgb habx ⊢
              generalize hWe : World.alloc W' _ = W' at hb tb ⊢
              have hab : ga ≠ gb := by omega
              clear hge hWe hg
              replace o := o.below hb o.lt
              replace p := p.below hb p.lt
              refine hK.out _ _ o ?_
              replace hB := hB.trans (hb.mono hB.size)
              replace Ga0 := Ga0.below hb (Nat.le_refl _)
              replace Ga1 := Ga1.below hb (Nat.le_refl _)
              replace Ga2 := Ga2.below hb (Nat.le_refl _)
              replace Gb0 := Gb0.below hb (Nat.le_refl _)
              replace Gb1 := Gb1.below hb (Nat.le_refl _)
              replace Gb2 := Gb2.below hb (Nat.le_refl _)
              replace ta := ta.below hb ta.lt
              clear hb hK
              (try simp only [Act.put, List.setIfInBounds_toArray, List.set_cons_zero, List.set_cons_succ])
              refine rg_one (fuel := 1) 6 rfl (by kernel_rfl) (by kernel_rfl) ?_
              simp only [pick1, wpHead]
              intro K hK
              rw [if_pos (by rfl)]
              obtain ⟨ly, ky, fy⟩ := ta.own
              go_simp
              refine hK.out _ _ (put4_other o (by omega)) ?_
              clear hK K ly ky fy
              replace Ga0 := put4_gro (x0 := .slice X0 n0 x0) (x1 := .slice X1 n1 x1) (x2 := .slice X2 n2 x2) (x3 := .int .i64 cw) Ga0 (ta.apart Ga0 (by decide))
              replace Gb0 := put4_gro (x0 := .slice X0 n0 x0) (x1 := .slice X1 n1 x1) (x2 := .slice X2 n2 x2) (x3 := .int .i64 cw) Gb0 (ta.apart Gb0 (by decide))
              replace Ga1 := put4_gro (x0 := .slice X0 n0 x0) (x1 := .slice X1 n1 x1) (x2 := .slice X2 n2 x2) (x3 := .int .i64 cw) Ga1 (ta.apart Ga1 (by decide))
              replace Gb1 := put4_gro (x0 := .slice X0 n0 x0) (x1 := .slice X1 n1 x1) (x2 := .slice X2 n2 x2) (x3 := .int .i64 cw) Gb1 (ta.apart Gb1 (by decide))
              replace Ga2 := put4_gro (x0 := .slice X0 n0 x0) (x1 := .slice X1 n1 x1) (x2 := .slice X2 n2 x2) (x3 := .int .i64 cw) Ga2 (ta.apart Ga2 (by decide))
              replace Gb2 := put4_gro (x0 := .slice X0 n0 x0) (x1 := .slice X1 n1 x1) (x2 := .slice X2 n2 x2) (x3 := .int .i64 cw) Gb2 (ta.apart Gb2 (by decide))
              replace o := put4_other (x0 := .slice X0 n0 x0) (x1 := .slice X1 n1 x1) (x2 := .slice X2 n2 x2) (x3 := .int .i64 cw) (g := ga) o (by omega)
              replace p := put4_other (x0 := .slice X0 n0 x0) (x1 := .slice X1 n1 x1) (x2 := .slice X2 n2 x2) (x3 := .int .i64 cw) (g := ga) p (by omega)
              replace hB := put4_below (x0 := .slice X0 n0 x0) (x1 := .slice X1 n1 x1) (x2 := .slice X2 n2 x2) (x3 := .int .i64 cw) (g := ga) hB (by omega)
              replace tb := put4_ownT (x0 := .slice X0 n0 x0) (x1 := .slice X1 n1 x1) (x2 := .slice X2 n2 x2) (x3 := .int .i64 cw) (g := ga) tb (by omega)
              replace ta := put4_own (x0 := .slice X0 n0 x0) (x1 := .slice X1 n1 x1) (x2 := .slice X2 n2 x2) (x3 := .int .i64 cw) ta
              simp only [put4] at Ga0 Ga1 Ga2 Gb0 Gb1 Gb2 o p hB ta tb
              refine rg_one (fuel := 0) 7 rfl (by kernel_rfl) (by kernel_rfl) ?_
              simp only [pick1, wpHead]
              intro K hK
              rw [if_pos (by rfl)]
              obtain ⟨ly, ky, fy⟩ := tb.own
              go_simp
              refine hK.out _ _ (put4_other o (by omega)) ?_
              clear hK K ly ky fy
              replace Ga0 := put4_gro (x0 := .slice Y0 n0 y0) (x1 := .slice Y1 n1 y1) (x2 := .slice Y2 n2 y2) (x3 := .int .i64 cw) Ga0 (tb.apart Ga0 (by decide))
              replace Gb0 := put4_gro (x0 := .slice Y0 n0 y0) (x1 := .slice Y1 n1 y1) (x2 := .slice Y2 n2 y2) (x3 := .int .i64 cw) Gb0 (tb.apart Gb0 (by decide))
              replace Ga1 := put4_gro (x0 := .slice Y0 n0 y0) (x1 := .slice Y1 n1 y1) (x2 := .slice Y2 n2 y2) (x3 := .int .i64 cw) Ga1 (tb.apart Ga1 (by decide))
              replace Gb1 := put4_gro (x0 := .slice Y0 n0 y0) (x1 := .slice Y1 n1 y1) (x2 := .slice Y2 n2 y2) (x3 := .int .i64 cw) Gb1 (tb.apart Gb1 (by decide))
              replace Ga2 := put4_gro (x0 := .slice Y0 n0 y0) (x1 := .slice Y1 n1 y1) (x2 := .slice Y2 n2 y2) (x3 := .int .i64 cw) Ga2 (tb.apart Ga2 (by decide))
              replace Gb2 := put4_gro (x0 := .slice Y0 n0 y0) (x1 := .slice Y1 n1 y1) (x2 := .slice Y2 n2 y2) (x3 := .int .i64 cw) Gb2 (tb.apart Gb2 (by decide))
              replace o := put4_other (x0 := .slice Y0 n0 y0) (x1 := .slice Y1 n1 y1) (x2 := .slice Y2 n2 y2) (x3 := .int .i64 cw) (g := gb) o (by omega)
              replace p := put4_other (x0 := .slice Y0 n0 y0) (x1 := .slice Y1 n1 y1) (x2 := .slice Y2 n2 y2) (x3 := .int .i64 cw) (g := gb) p (by omega)
              replace hB := put4_below (x0 := .slice Y0 n0 y0) (x1 := .slice Y1 n1 y1) (x2 := .slice Y2 n2 y2) (x3 := .int .i64 cw) (g := gb) hB (by omega)
              replace ta := put4_ownT (x0 := .slice Y0 n0 y0) (x1 := .slice Y1 n1 y1) (x2 := .slice Y2 n2 y2) (x3 := .int .i64 cw) (g := gb) ta (by omega)
              replace tb := put4_own (x0 := .slice Y0 n0 y0) (x1 := .slice Y1 n1 y1) (x2 := .slice Y2 n2 y2) (x3 := .int .i64 cw) tb
              simp only [put4] at Ga0 Ga1 Ga2 Gb0 Gb1 Gb2 o p hB ta tb
              refine rg_done (by kernel_rfl) ?_
              have r := rest ga gb nb X0 X1 X2 Y0 Y1 Y2 x0 x1 x2 y0 y1 y2 _ hB ⟨o, p, ta, tb, Ga0, Ga1, Ga2, Gb0, Gb1, Gb2, la0, la1, la2, hnb, hab, hga, hgb⟩
              simp only [Act.put, List.setIfInBounds_toArray, List.set_cons_zero, List.set_cons_succ] at r
              (try simp only [Act.put, List.setIfInBounds_toArray, List.set_cons_zero, List.set_cons_succ])
              exact r
          · intro K hK
            simp only [pick1, wpHead]
            rw [if_pos (by rfl)]
            go_simp
            have hg := p.lt
            have tb := OwnT.new W' #[.slice none 0 0, .slice none 0 0, .slice none 0 0, .int .i64 0] 26
            have hb := (Below.refl W'.heap.size W').alloc (Nat.le_refl _) (.cells #[.slice none 0 0, .slice none 0 0, .slice none 0 0, .int .i64 0] 26)
            have habx := ta.lt
            have hgb : w.heap.size + 2 ≤ W'.heap.size := p.lt
            obtain ⟨gb, hge⟩ : ∃ g, g = W'.heap.size := ⟨_, rfl⟩
            rw [← hge] at tb hgb habx ⊢
            generalize hWe : World.alloc W' _ = W' at hb tb ⊢
            have hab : ga ≠ gb := by omega
            clear hge hWe hg
            replace o := o.below hb o.lt
            replace p := p.below hb p.lt
            refine hK.out _ _ o ?_
            replace hB := hB.trans (hb.mono hB.size)
            replace Ga0 := Ga0.below hb (Nat.le_refl _)
            replace Ga1 := Ga1.below hb (Nat.le_refl _)
            replace Ga2 := Ga2.below hb (Nat.le_refl _)
            replace ta := ta.below hb ta.lt
            clear hb hK
            (try simp only [Act.put, List.setIfInBounds_toArray, List.set_cons_zero, List.set_cons_succ])
            refine rg_many (fuel := 2) [3] rfl (by simp) (by kernel_rfl) (by kernel_rfl) ?_
            intro c hc
            rcases (show c = 3 by simpa using hc) with rfl
            · intro K hK
              simp only [pick1, wpHead]
              rw [if_pos (by rfl)]
              go_simp
              refine (copy27x A0 A1 A2 n0 n1 n2 c0 c1 c2 cw B D R _ (HC.out.below hB (Nat.le_refl _)) (by omega) (by omega) (by omega)).mono ?_
              rintro e W' ⟨Y0, Y1, Y2, y0, y1, y2, rfl, Gb0, Gb1, Gb2, hb⟩
              have hnb := p.lt
              have la0 := Ga0.2.lt
              have la1 := Ga1.2.lt
              have la2 := Ga2.2.lt
              generalize hnbe : World.heap _ = hp at Gb0 Gb1 Gb2 la0 la1 la2 hnb
              generalize hnbe : Array.size hp = nb at Gb0 Gb1 Gb2 la0 la1 la2 hnb
              go_wp2_with fail
              replace o := o.below hb o.lt
              replace p := p.below hb p.lt
              refine hK.out _ _ o ?_
              replace hB := hB.trans (hb.mono hB.size)
              replace Ga0 := Ga0.below hb (Nat.le_refl _)
              replace Ga1 := Ga1.below hb (Nat.le_refl _)
              replace Ga2 := Ga2.below hb (Nat.le_refl _)
              replace ta := ta.below hb ta.lt
              replace tb := tb.below hb tb.lt
              clear hb hK
              (try simp only [Act.put, List.setIfInBounds_toArray, List.set_cons_zero, List.set_cons_succ])
              refine rg_one (fuel := 1) 6 rfl (by kernel_rfl) (by kernel_rfl) ?_
              simp only [pick1, wpHead]
              intro K hK
              rw [if_pos (by rfl)]
              obtain ⟨ly, ky, fy⟩ := ta.own
              go_simp
              refine hK.out _ _ (put4_other o (by omega)) ?_
              clear hK K ly ky fy
              replace Ga0 := put4_gro (x0 := .slice X0 n0 x0) (x1 := .slice X1 n1 x1) (x2 := .slice X2 n2 x2) (x3 := .int .i64 cw) Ga0 (ta.apart Ga0 (by decide))
              replace Gb0 := put4_gro (x0 := .slice X0 n0 x0) (x1 := .slice X1 n1 x1) (x2 := .slice X2 n2 x2) (x3 := .int .i64 cw) Gb0 (ta.apart Gb0 (by decide))
              replace Ga1 := put4_gro (x0 := .slice X0 n0 x0) (x1 := .slice X1 n1 x1) (x2 := .slice X2 n2 x2) (x3 := .int .i64 cw) Ga1 (ta.apart Ga1 (by decide))
              replace Gb1 := put4_gro (x0 := .slice X0 n0 x0) (x1 := .slice X1 n1 x1) (x2 := .slice X2 n2 x2) (x3 := .int .i64 cw) Gb1 (ta.apart Gb1 (by decide))
              replace Ga2 := put4_gro (x0 := .slice X0 n0 x0) (x1 := .slice X1 n1 x1) (x2 := .slice X2 n2 x2) (x3 := .int .i64 cw) Ga2 (ta.apart Ga2 (by decide))
              replace Gb2 := put4_gro (x0 := .slice X0 n0 x0) (x1 := .slice X1 n1 x1) (x2 := .slice X2 n2 x2) (x3 := .int .i64 cw) Gb2 (ta.apart Gb2 (by decide))
              replace o := put4_other (x0 := .slice X0 n0 x0) (x1 := .slice X1 n1 x1) (x2 := .slice X2 n2 x2) (x3 := .int .i64 cw) (g := ga) o (by omega)
              replace p := put4_other (x0 := .slice X0 n0 x0) (x1 := .slice X1 n1 x1) (x2 := .slice X2 n2 x2) (x3 := .int .i64 cw) (g := ga) p (by omega)
              replace hB := put4_below (x0 := .slice X0 n0 x0) (x1 := .slice X1 n1 x1) (x2 := .slice X2 n2 x2) (x3 := .int .i64 cw) (g := ga) hB (by omega)
              replace tb := put4_ownT (x0 := .slice X0 n0 x0) (x1 := .slice X1 n1 x1) (x2 := .slice X2 n2 x2) (x3 := .int .i64 cw) (g := ga) tb (by omega)
              replace ta := put4_own (x0 := .slice X0 n0 x0) (x1 := .slice X1 n1 x1) (x2 := .slice X2 n2 x2) (x3 := .int .i64 cw) ta
              simp only [put4] at Ga0 Ga1 Ga2 Gb0 Gb1 Gb2 o p hB ta tb
              refine rg_one (fuel := 0) 7 rfl (by kernel_rfl) (by kernel_rfl) ?_
              simp only [pick1, wpHead]
              intro K hK
              rw [if_pos (by rfl)]
              obtain ⟨ly, ky, fy⟩ := tb.own
              go_simp
              refine hK.out _ _ (put4_other o (by omega)) ?_
              clear hK K ly ky fy
              replace Ga0 := put4_gro (x0 := .slice Y0 n0 y0) (x1 := .slice Y1 n1 y1) (x2 := .slice Y2 n2 y2) (x3 := .int .i64 cw) Ga0 (tb.apart Ga0 (by decide))
              replace Gb0 := put4_gro (x0 := .slice Y0 n0 y0) (x1 := .slice Y1 n1 y1) (x2 := .slice Y2 n2 y2) (x3 := .int .i64 cw) Gb0 (tb.apart Gb0 (by decide))
              replace Ga1 := put4_gro (x0 := .slice Y0 n0 y0) (x1 := .slice Y1 n1 y1) (x2 := .slice Y2 n2 y2) (x3 := .int .i64 cw) Ga1 (tb.apart Ga1 (by decide))
              replace Gb1 := put4_gro (x0 := .slice Y0 n0 y0) (x1 := .slice Y1 n1 y1) (x2 := .slice Y2 n2 y2) (x3 := .int .i64 cw) Gb1 (tb.apart Gb1 (by decide))
              replace Ga2 := put4_gro (x0 := .slice Y0 n0 y0) (x1 := .slice Y1 n1 y1) (x2 := .slice Y2 n2 y2) (x3 := .int .i64 cw) Ga2 (tb.apart Ga2 (by decide))
              replace Gb2 := put4_gro (x0 := .slice Y0 n0 y0) (x1 := .slice Y1 n1 y1) (x2 := .slice Y2 n2 y2) (x3 := .int .i64 cw) Gb2 (tb.apart Gb2 (by decide))
              replace o := put4_other (x0 := .slice Y0 n0 y0) (x1 := .slice Y1 n1 y1) (x2 := .slice Y2 n2 y2) (x3 := .int .i64 cw) (g := gb) o (by omega)
              replace p := put4_other (x0 := .slice Y0 n0 y0) (x1 := .slice Y1 n1 y1) (x2 := .slice Y2 n2 y2) (x3 := .int .i64 cw) (g := gb) p (by omega)
              replace hB := put4_below (x0 := .slice Y0 n0 y0) (x1 := .slice Y1 n1 y1) (x2 := .slice Y2 n2 y2) (x3 := .int .i64 cw) (g := gb) hB (by omega)
              replace ta := put4_ownT (x0 := .slice Y0 n0 y0) (x1 := .slice Y1 n1 y1) (x2 := .slice Y2 n2 y2) (x3 := .int .i64 cw) (g := gb) ta (by omega)
              replace tb := put4_own (x0 := .slice Y0 n0 y0) (x1 := .slice Y1 n1 y1) (x2 := .slice Y2 n2 y2) (x3 := .int .i64 cw) tb
              simp only [put4] at Ga0 Ga1 Ga2 Gb0 Gb1 Gb2 o p hB ta tb
              refine rg_done (by kernel_rfl) ?_
              have r := rest ga gb nb X0 X1 X2 Y0 Y1 Y2 x0 x1 x2 y0 y1 y2 _ hB ⟨o, p, ta, tb, Ga0, Ga1, Ga2, Gb0, Gb1, Gb2, la0, la1, la2, hnb, hab, hga, hgb⟩
              simp only [Act.put, List.setIfInBounds_toArray, List.set_cons_zero, List.set_cons_succ] at r
              (try simp only [Act.put, List.setIfInBounds_toArray, List.set_cons_zero, List.set_cons_succ])
              exact r
        · intro K hK
          simp only [pick1, wpHead]
          rw [if_pos (by rfl)]
          go_simp
          have hg := p.lt
          have tb := OwnT.new W' #[.slice none 0 0, .slice none 0 0, .slice none 0 0, .int .i64 0] 26
          have hb := (Below.refl W'.heap.size W').alloc (Nat.le_refl _) (.cells #[.slice none 0 0, .slice none 0 0, .slice none 0 0, .int .i64 0] 26)
          have hgb : w.heap.size + 2 ≤ W'.heap.size := p.lt
          obtain ⟨gb, hge⟩ : ∃ g, g = W'.heap.size := ⟨_, rfl⟩
          rw [← hge] at tb hgb ⊢
          generalize hWe : World.alloc W' _ = W' at hb tb ⊢
          clear hge hWe hg
          replace o := o.below hb o.lt
          replace p := p.below hb p.lt
          refine hK.out _ _ o ?_
          replace hB := hB.trans (hb.mono hB.size)
          replace Ga0 := Ga0.below hb (Nat.le_refl _)
          replace Ga1 := Ga1.below hb (Nat.le_refl _)
          replace Ga2 := Ga2.below hb (Nat.le_refl _)
          clear hb hK
          (try simp only [Act.put, List.setIfInBounds_toArray, List.set_cons_zero, List.set_cons_succ])
          refine rg_many (fuel := 3) [3, 4] rfl (by simp) (by kernel_rfl) (by kernel_rfl) ?_
          intro c hc
          rcases (show c = 3 ∨ c = 4 by simpa using hc) with rfl | rfl
          · intro K hK
            simp only [pick1, wpHead]
            rw [if_pos (by rfl)]
            go_simp
            refine (copy27x A0 A1 A2 n0 n1 n2 c0 c1 c2 cw B D R _ (HC.out.below hB (Nat.le_refl _)) (by omega) (by omega) (by omega)).mono ?_
            rintro e W' ⟨Y0, Y1, Y2, y0, y1, y2, rfl, Gb0, Gb1, Gb2, hb⟩
            have hnb := p.lt
            have la0 := Ga0.2.lt
            have la1 := Ga1.2.lt
            have la2 := Ga2.2.lt
            generalize hnbe : World.heap _ = hp at Gb0 Gb1 Gb2 la0 la1 la2 hnb
            generalize hnbe : Array.size hp = nb at Gb0 Gb1 Gb2 la0 la1 la2 hnb
            go_wp2_with fail
            replace o := o.below hb o.lt
            replace p := p.below hb p.lt
            refine hK.out _ _ o ?_
            replace hB := hB.trans (hb.mono hB.size)
            replace Ga0 := Ga0.below hb (Nat.le_refl _)
            replace Ga1 := Ga1.below hb (Nat.le_refl _)
            replace Ga2 := Ga2.below hb (Nat.le_refl _)
            replace tb := tb.below hb tb.lt
            clear hb hK
            (try simp only [Act.put, List.setIfInBounds_toArray, List.set_cons_zero, List.set_cons_succ])
            refine rg_many (fuel := 2) [4] rfl (by simp) (by kernel_rfl) (by kernel_rfl) ?_
            intro c hc
            rcases (show c = 4 by simpa using hc) with rfl
            · intro K hK
              simp only [pick1, wpHead]
              rw [if_pos (by rfl)]
              go_simp
              have hg := p.lt
              have ta := OwnT.new W' #[.slice none 0 0, .slice none 0 0, .slice none 0 0, .int .i64 0] 26
              have hb := (Below.refl W'.heap.size W').alloc (Nat.le_refl _) (.cells #[.slice none 0 0, .slice none 0 0, .slice none 0 0, .int .i64 0] 26)
              have habx := tb.lt
              have hga : w.heap.size + 2 ≤ W'.heap.size := p.lt
              obtain ⟨ga, hge⟩ : ∃ g, g = W'.heap.size := ⟨_, rfl⟩
              rw [← hge] at ta hga habx ⊢
              generalize hWe : World.alloc W' _ = W' at hb ta ⊢
              have hab : ga ≠ gb := by omega
              clear hge hWe hg
              replace o := o.below hb o.lt
              replace p := p.below hb p.lt
              refine hK.out _ _ o ?_
              replace hB := hB.trans (hb.mono hB.size)
              replace Ga0 := Ga0.below hb (Nat.le_refl _)
              replace Ga1 := Ga1.below hb (Nat.le_refl _)
              replace Ga2 := Ga2.below hb (Nat.le_refl _)
              replace Gb0 := Gb0.below hb (Nat.le_refl _)
              replace Gb1 := Gb1.below hb (Nat.le_refl _)
              replace Gb2 := Gb2.below hb (Nat.le_refl _)
              replace tb := tb.below hb tb.lt
              clear hb hK
              (try simp only [Act.put, List.setIfInBounds_toArray, List.set_cons_zero, List.set_cons_succ])
              refine rg_one (fuel := 1) 6 rfl (by kernel_rfl) (by kernel_rfl) ?_
              simp only [pick1, wpHead]
              intro K hK
              rw [if_pos (by rfl)]
              obtain ⟨ly, ky, fy⟩ := ta.own
              go_simp
              refine hK.out _ _ (put4_other o (by omega)) ?_
              clear hK K ly ky fy
              replace Ga0 := put4_gro (x0 := .slice X0 n0 x0) (x1 := .slice X1 n1 x1) (x2 := .slice X2 n2 x2) (x3 := .int .i64 cw) Ga0 (ta.apart Ga0 (by decide))
              replace Gb0 := put4_gro (x0 := .slice X0 n0 x0) (x1 := .slice X1 n1 x1) (x2 := .slice X2 n2 x2) (x3 := .int .i64 cw) Gb0 (ta.apart Gb0 (by decide))
              replace Ga1 := put4_gro (x0 := .slice X0 n0 x0) (x1 := .slice X1 n1 x1) (x2 := .slice X2 n2 x2) (x3 := .int .i64 cw) Ga1 (ta.apart Ga1 (by decide))
              replace Gb1 := put4_gro (x0 := .slice X0 n0 x0) (x1 := .slice X1 n1 x1) (x2 := .slice X2 n2 x2) (x3 := .int .i64 cw) Gb1 (ta.apart Gb1 (by decide))
              replace Ga2 := put4_gro (x0 := .slice X0 n0 x0) (x1 := .slice X1 n1 x1) (x2 := .slice X2 n2 x2) (x3 := .int .i64 cw) Ga2 (ta.apart Ga2 (by decide))
              replace Gb2 := put4_gro (x0 := .slice X0 n0 x0) (x1 := .slice X1 n1 x1) (x2 := .slice X2 n2 x2) (x3 := .int .i64 cw) Gb2 (ta.apart Gb2 (by decide))
              replace o := put4_other (x0 := .slice X0 n0 x0) (x1 := .slice X1 n1 x1) (x2 := .slice X2 n2 x2) (x3 := .int .i64 cw) (g := ga) o (by omega)
              replace p := put4_other (x0 := .slice X0 n0 x0) (x1 := .slice X1 n1 x1) (x2 := .slice X2 n2 x2) (x3 := .int .i64 cw) (g := ga) p (by omega)
              replace hB := put4_below (x0 := .slice X0 n0 x0) (x1 := .slice X1 n1 x1) (x2 := .slice X2 n2 x2) (x3 := .int .i64 cw) (g := ga) hB (by omega)
              replace tb := put4_ownT (x0 := .slice X0 n0 x0) (x1 := .slice X1 n1 x1) (x2 := .slice X2 n2 x2) (x3 := .int .i64 cw) (g := ga) tb (by omega)
              replace ta := put4_own (x0 := .slice X0 n0 x0) (x1 := .slice X1 n1 x1) (x2 := .slice X2 n2 x2) (x3 := .int .i64 cw) ta
              simp only [put4] at Ga0 Ga1 Ga2 Gb0 Gb1 Gb2 o p hB ta tb
              refine rg_one (fuel := 0) 7 rfl (by kernel_rfl) (by kernel_rfl) ?_
              simp only [pick1, wpHead]
              intro K hK
              rw [if_pos (by rfl)]
              obtain ⟨ly, ky, fy⟩ := tb.own
              go_simp
              refine hK.out _ _ (put4_other o (by omega)) ?_
              clear hK K ly ky fy
              replace Ga0 := put4_gro (x0 := .slice Y0 n0 y0) (x1 := .slice Y1 n1 y1) (x2 := .slice Y2 n2 y2) (x3 := .int .i64 cw) Ga0 (tb.apart Ga0 (by decide))
              replace Gb0 := put4_gro (x0 := .slice Y0 n0 y0) (x1 := .slice Y1 n1 y1) (x2 := .slice Y2 n2 y2) (x3 := .int .i64 cw) Gb0 (tb.apart Gb0 (by decide))
              replace Ga1 := put4_gro (x0 := .slice Y0 n0 y0) (x1 := .slice Y1 n1 y1) (x2 := .slice Y2 n2 y2) (x3 := .int .i64 cw) Ga1 (tb.apart Ga1 (by decide))
              replace Gb1 := put4_gro (x0 := .slice Y0 n0 y0) (x1 := .slice Y1 n1 y1) (x2 := .slice Y2 n2 y2) (x3 := .int .i64 cw) Gb1 (tb.apart Gb1 (by decide))
              replace Ga2 := put4_gro (x0 := .slice Y0 n0 y0) (x1 := .slice Y1 n1 y1) (x2 := .slice Y2 n2 y2) (x3 := .int .i64 cw) Ga2 (tb.apart Ga2 (by decide))
              replace Gb2 := put4_gro (x0 := .slice Y0 n0 y0) (x1 := .slice Y1 n1 y1) (x2 := .slice Y2 n2 y2) (x3 := .int .i64 cw) Gb2 (tb.apart Gb2 (by decide))
              replace o := put4_other (x0 := .slice Y0 n0 y0) (x1 := .slice Y1 n1 y1) (x2 := .slice Y2 n2 y2) (x3 := .int .i64 cw) (g := gb) o (by omega)
              replace p := put4_other (x0 := .slice Y0 n0 y0) (x1 := .slice Y1 n1 y1) (x2 := .slice Y2 n2 y2) (x3 := .int .i64 cw) (g := gb) p (by omega)
              replace hB := put4_below (x0 := .slice Y0 n0 y0) (x1 := .slice Y1 n1 y1) (x2 := .slice Y2 n2 y2) (x3 := .int .i64 cw) (g := gb) hB (by omega)
              replace ta := put4_ownT (x0 := .slice Y0 n0 y0) (x1 := .slice Y1 n1 y1) (x2 := .slice Y2 n2 y2) (x3 := .int .i64 cw) (g := gb) ta (by omega)
              replace tb := put4_own (x0 := .slice Y0 n0 y0) (x1 := .slice Y1 n1 y1) (x2 := .slice Y2 n2 y2) (x3 := .int .i64 cw) tb
              simp only [put4] at Ga0 Ga1 Ga2 Gb0 Gb1 Gb2 o p hB ta tb
              refine rg_done (by kernel_rfl) ?_
              have r := rest ga gb nb X0 X1 X2 Y0 Y1 Y2 x0 x1 x2 y0 y1 y2 _ hB ⟨o, p, ta, tb, Ga0, Ga1, Ga2, Gb0, Gb1, Gb2, la0, la1, la2, hnb, hab, hga, hgb⟩
              simp only [Act.put, List.setIfInBounds_toArray, List.set_cons_zero, List.set_cons_succ] at r
              (try simp only [Act.put, List.setIfInBounds_toArray, List.set_cons_zero, List.set_cons_succ])
              exact r
          · intro K hK
            simp only [pick1, wpHead]
            rw [if_pos (by rfl)]
            go_simp
            have hg := p.lt
            have ta := OwnT.new W' #[.slice none 0 0, .slice none 0 0, .slice none 0 0, .int .i64 0] 26
            have hb := (Below.refl W'.heap.size W').alloc (Nat.le_refl _) (.cells #[.slice none 0 0, .slice none 0 0, .slice none 0 0, .int .i64 0] 26)
            have habx := tb.lt
            have hga : w.heap.size + 2 ≤ W'.heap.size := p.lt
            obtain ⟨ga, hge⟩ : ∃ g, g = W'.heap.size := ⟨_, rfl⟩
            rw [← hge] at ta hga habx ⊢
            generalize hWe : World.alloc W' _ = W' at hb ta ⊢
            have hab : ga ≠ gb := by omega
            clear hge hWe hg
            replace o := o.below hb o.lt
            replace p := p.below hb p.lt
            refine hK.out _ _ o ?_
            replace hB := hB.trans (hb.mono hB.size)
            replace Ga0 := Ga0.below hb (Nat.le_refl _)
            replace Ga1 := Ga1.below hb (Nat.le_refl _)
            replace Ga2 := Ga2.below hb (Nat.le_refl _)
            replace tb := tb.below hb tb.lt
            clear hb hK
            (try simp only [Act.put, List.setIfInBounds_toArray, List.set_cons_zero, List.set_cons_succ])
            refine rg_many (fuel := 2) [3] rfl (by simp) (by kernel_rfl) (by kernel_rfl) ?_
            intro c hc
            rcases (show c = 3 by simpa using hc) with rfl
            · intro K hK
              simp only [pick1, wpHead]
              rw [if_pos (by rfl)]
              go_simp
              refine (copy27x A0 A1 A2 n0 n1 n2 c0 c1 c2 cw B D R _ (HC.out.below hB (Nat.le_refl _)) (by omega) (by omega) (by omega)).mono ?_
              rintro e W' ⟨Y0, Y1, Y2, y0, y1, y2, rfl, Gb0, Gb1, Gb2, hb⟩
              have hnb := p.lt
              have la0 := Ga0.2.lt
              have la1 := Ga1.2.lt
              have la2 := Ga2.2.lt
              generalize hnbe : World.heap _ = hp at Gb0 Gb1 Gb2 la0 la1 la2 hnb
              generalize hnbe : Array.size hp = nb at Gb0 Gb1 Gb2 la0 la1 la2 hnb
              go_wp2_with fail
              replace o := o.below hb o.lt
              replace p := p.below hb p.lt
              refine hK.out _ _ o ?_
              replace hB := hB.trans (hb.mono hB.size)
              replace Ga0 := Ga0.below hb (Nat.le_refl _)
              replace Ga1 := Ga1.below hb (Nat.le_refl _)
              replace Ga2 := Ga2.below hb (Nat.le_refl _)
              replace ta := ta.below hb ta.lt
              replace tb := tb.below hb tb.lt
              clear hb hK
              (try simp only [Act.put, List.setIfInBounds_toArray, List.set_cons_zero, List.set_cons_succ])
              refine rg_one (fuel := 1) 6 rfl (by kernel_rfl) (by kernel_rfl) ?_
              simp only [pick1, wpHead]
              intro K hK
              rw [if_pos (by rfl)]
              obtain ⟨ly, ky, fy⟩ := ta.own
              go_simp
              refine hK.out _ _ (put4_other o (by omega)) ?_
              clear hK K ly ky fy
              replace Ga0 := put4_gro (x0 := .slice X0 n0 x0) (x1 := .slice X1 n1 x1) (x2 := .slice X2 n2 x2) (x3 := .int .i64 cw) Ga0 (ta.apart Ga0 (by decide))
              replace Gb0 := put4_gro (x0 := .slice X0 n0 x0) (x1 := .slice X1 n1 x1) (x2 := .slice X2 n2 x2) (x3 := .int .i64 cw) Gb0 (ta.apart Gb0 (by decide))
              replace Ga1 := put4_gro (x0 := .slice X0 n0 x0) (x1 := .slice X1 n1 x1) (x2 := .slice X2 n2 x2) (x3 := .int .i64 cw) Ga1 (ta.apart Ga1 (by decide))
              replace Gb1 := put4_gro (x0 := .slice X0 n0 x0) (x1 := .slice X1 n1 x1) (x2 := .slice X2 n2 x2) (x3 := .int .i64 cw) Gb1 (ta.apart Gb1 (by decide))
              replace Ga2 := put4_gro (x0 := .slice X0 n0 x0) (x1 := .slice X1 n1 x1) (x2 := .slice X2 n2 x2) (x3 := .int .i64 cw) Ga2 (ta.apart Ga2 (by decide))
              replace Gb2 := put4_gro (x0 := .slice X0 n0 x0) (x1 := .slice X1 n1 x1) (x2 := .slice X2 n2 x2) (x3 := .int .i64 cw) Gb2 (ta.apart Gb2 (by decide))
              replace o := put4_other (x0 := .slice X0 n0 x0) (x1 := .slice X1 n1 x1) (x2 := .slice X2 n2 x2) (x3 := .int .i64 cw) (g := ga) o (by omega)
              replace p := put4_other (x0 := .slice X0 n0 x0) (x1 := .slice X1 n1 x1) (x2 := .slice X2 n2 x2) (x3 := .int .i64 cw) (g := ga) p (by omega)
              replace hB := put4_below (x0 := .slice X0 n0 x0) (x1 := .slice X1 n1 x1) (x2 := .slice X2 n2 x2) (x3 := .int .i64 cw) (g := ga) hB (by omega)
              replace tb := put4_ownT (x0 := .slice X0 n0 x0) (x1 := .slice X1 n1 x1) (x2 := .slice X2 n2 x2) (x3 := .int .i64 cw) (g := ga) tb (by omega)
              replace ta := put4_own (x0 := .slice X0 n0 x0) (x1 := .slice X1 n1 x1) (x2 := .slice X2 n2 x2) (x3 := .int .i64 cw) ta
              simp only [put4] at Ga0 Ga1 Ga2 Gb0 Gb1 Gb2 o p hB ta tb
              refine rg_one (fuel := 0) 7 rfl (by kernel_rfl) (by kernel_rfl) ?_
              simp only [pick1, wpHead]
              intro K hK
              rw [if_pos (by rfl)]
              obtain ⟨ly, ky, fy⟩ := tb.own
              go_simp
              refine hK.out _ _ (put4_other o (by omega)) ?_
              clear hK K ly ky fy
              replace Ga0 := put4_gro (x0 := .slice Y0 n0 y0) (x1 := .slice Y1 n1 y1) (x2 := .slice Y2 n2 y2) (x3 := .int .i64 cw) Ga0 (tb.apart Ga0 (by decide))
              replace Gb0 := put4_gro (x0 := .slice Y0 n0 y0) (x1 := .slice Y1 n1 y1) (x2 := .slice Y2 n2 y2) (x3 := .int .i64 cw) Gb0 (tb.apart Gb0 (by decide))
              replace Ga1 := put4_gro (x0 := .slice Y0 n0 y0) (x1 := .slice Y1 n1 y1) (x2 := .slice Y2 n2 y2) (x3 := .int .i64 cw) Ga1 (tb.apart Ga1 (by decide))
              replace Gb1 := put4_gro (x0 := .slice Y0 n0 y0) (x1 := .slice Y1 n1 y1) (x2 := .slice Y2 n2 y2) (x3 := .int .i64 cw) Gb1 (tb.apart Gb1 (by decide))
              replace Ga2 := put4_gro (x0 := .slice Y0 n0 y0) (x1 := .slice Y1 n1 y1) (x2 := .slice Y2 n2 y2) (x3 := .int .i64 cw) Ga2 (tb.apart Ga2 (by decide))
              replace Gb2 := put4_gro (x0 := .slice Y0 n0 y0) (x1 := .slice Y1 n1 y1) (x2 := .slice Y2 n2 y2) (x3 := .int .i64 cw) Gb2 (tb.apart Gb2 (by decide))
              replace o := put4_other (x0 := .slice Y0 n0 y0) (x1 := .slice Y1 n1 y1) (x2 := .slice Y2 n2 y2) (x3 := .int .i64 cw) (g := gb) o (by omega)
              replace p := put4_other (x0 := .slice Y0 n0 y0) (x1 := .slice Y1 n1 y1) (x2 := .slice Y2 n2 y2) (x3 := .int .i64 cw) (g := gb) p (by omega)
              replace hB := put4_below (x0 := .slice Y0 n0 y0) (x1 := .slice Y1 n1 y1) (x2 := .slice Y2 n2 y2) (x3 := .int .i64 cw) (g := gb) hB (by omega)
              replace ta := put4_ownT (x0 := .slice Y0 n0 y0) (x1 := .slice Y1 n1 y1) (x2 := .slice Y2 n2 y2) (x3 := .int .i64 cw) (g := gb) ta (by omega)
              replace tb := put4_own (x0 := .slice Y0 n0 y0) (x1 := .slice Y1 n1 y1) (x2 := .slice Y2 n2 y2) (x3 := .int .i64 cw) tb
              simp only [put4] at Ga0 Ga1 Ga2 Gb0 Gb1 Gb2 o p hB ta tb
              refine rg_done (by kernel_rfl) ?_
              have r := rest ga gb nb X0 X1 X2 Y0 Y1 Y2 x0 x1 x2 y0 y1 y2 _ hB ⟨o, p, ta, tb, Ga0, Ga1, Ga2, Gb0, Gb1, Gb2, la0, la1, la2, hnb, hab, hga, hgb⟩
              simp only [Act.put, List.setIfInBounds_toArray, List.set_cons_zero, List.set_cons_succ] at r
              (try simp only [Act.put, List.setIfInBounds_toArray, List.set_cons_zero, List.set_cons_succ])
              exact r
      · intro K hK
        simp only [pick1, wpHead]
        rw [if_pos (by rfl)]
        go_simp
        have hg := p.lt
        have ta := OwnT.new W #[.slice none 0 0, .slice none 0 0, .slice none 0 0, .int .i64 0] 26
        have hb := (Below.refl W.heap.size W).alloc (Nat.le_refl _) (.cells #[.slice none 0 0, .slice none 0 0, .slice none 0 0, .int .i64 0] 26)
        have hga : w.heap.size + 2 ≤ W.heap.size := p.lt
        obtain ⟨ga, hge⟩ : ∃ g, g = W.heap.size := ⟨_, rfl⟩
        rw [← hge] at ta hga ⊢
        generalize hWe : World.alloc W _ = W' at hb ta ⊢
        clear hge hWe hg
        replace o := o.below hb o.lt
        replace p := p.below hb p.lt
        refine hK.out _ _ o ?_
        replace hB := hB.trans (hb.mono hB.size)
        clear hb hK
        (try simp only [Act.put, List.setIfInBounds_toArray, List.set_cons_zero, List.set_cons_succ])
        refine rg_many (fuel := 4) [1, 5] rfl (by simp) (by kernel_rfl) (by kernel_rfl) ?_
        intro c hc
        rcases (show c = 1 ∨ c = 5 by simpa using hc) with rfl | rfl
        · intro K hK
          simp only [pick1, wpHead]
          rw [if_pos (by rfl)]
          go_simp
          refine (copy27x A0 A1 A2 n0 n1 n2 c0 c1 c2 cw B D R _ (HC.out.below hB (Nat.le_refl _)) (by omega) (by omega) (by omega)).mono ?_
          rintro e W' ⟨X0, X1, X2, x0, x1, x2, rfl, Ga0, Ga1, Ga2, hb⟩
          replace Ga0 := Ga0.base (base' := w.heap.size + 2) p.lt
          replace Ga1 := Ga1.base (base' := w.heap.size + 2) p.lt
          replace Ga2 := Ga2.base (base' := w.heap.size + 2) p.lt
          go_wp2_with fail
          replace o := o.below hb o.lt
          replace p := p.below hb p.lt
          refine hK.out _ _ o ?_
          replace hB := hB.trans (hb.mono hB.size)
          replace ta := ta.below hb ta.lt
          clear hb hK
          (try simp only [Act.put, List.setIfInBounds_toArray, List.set_cons_zero, List.set_cons_succ])
          refine rg_many (fuel := 3) [3, 5] rfl (by simp) (by kernel_rfl) (by kernel_rfl) ?_
          intro c hc
          rcases (show c = 3 ∨ c = 5 by simpa using hc) with rfl | rfl
          · intro K hK
            simp only [pick1, wpHead]
            rw [if_pos (by rfl)]
            go_simp
            refine (copy27x A0 A1 A2 n0 n1 n2 c0 c1 c2 cw B D R _ (HC.out.below hB (Nat.le_refl _)) (by omega) (by omega) (by omega)).mono ?_
            rintro e W' ⟨Y0, Y1, Y2, y0, y1, y2, rfl, Gb0, Gb1, Gb2, hb⟩
            have hnb := p.lt
            have la0 := Ga0.2.lt
            have la1 := Ga1.2.lt
            have la2 := Ga2.2.lt
            generalize hnbe : World.heap _ = hp at Gb0 Gb1 Gb2 la0 la1 la2 hnb
            generalize hnbe : Array.size hp = nb at Gb0 Gb1 Gb2 la0 la1 la2 hnb
            go_wp2_with fail
            replace o := o.below hb o.lt
            replace p := p.below hb p.lt
            refine hK.out _ _ o ?_
            replace hB := hB.trans (hb.mono hB.size)
            replace Ga0 := Ga0.below hb (Nat.le_refl _)
            replace Ga1 := Ga1.below hb (Nat.le_refl _)
            replace Ga2 := Ga2.below hb (Nat.le_refl _)
            replace ta := ta.below hb ta.lt
            clear hb hK
            (try simp only [Act.put, List.setIfInBounds_toArray, List.set_cons_zero, List.set_cons_succ])
            refine rg_many (fuel := 2) [5] rfl (by simp) (by kernel_rfl) (by kernel_rfl) ?_
            intro c hc
            rcases (show c = 5 by simpa using hc) with rfl
            · intro K hK
              simp only [pick1, wpHead]
              rw [if_pos (by rfl)]
              go_simp
              have hg := p.lt
              have tb := OwnT.new W' #[.slice none 0 0, .slice none 0 0, .slice none 0 0, .int .i64 0] 26
              have hb := (Below.refl W'.heap.size W').alloc (Nat.le_refl _) (.cells #[.slice none 0 0, .slice none 0 0, .slice none 0 0, .int .i64 0] 26)
              have habx := ta.lt
              have hgb : w.heap.size + 2 ≤ W'.heap.size := p.lt
              obtain ⟨gb, hge⟩ : ∃ g, g = W'.heap.size := ⟨_, rfl⟩
              rw [← hge] at tb hgb habx ⊢
              generalize hWe : World.alloc W' _ = W' at hb tb ⊢
              have hab : ga ≠ gb := by omega
              clear hge hWe hg
              replace o := o.below hb o.lt
              replace p := p.below hb p.lt
              refine hK.out _ _ o ?_
              replace hB := hB.trans (hb.mono hB.size)
              replace Ga0 := Ga0.below hb (Nat.le_refl _)
              replace Ga1 := Ga1.below hb (Nat.le_refl _)
              replace Ga2 := Ga2.below hb (Nat.le_refl _)
              replace Gb0 := Gb0.below hb (Nat.le_refl _)
              replace Gb1 := Gb1.below hb (Nat.le_refl _)
              replace Gb2 := Gb2.below hb (Nat.le_refl _)
              replace ta := ta.below hb ta.lt
              clear hb hK
              (try simp only [Act.put, List.setIfInBounds_toArray, List.set_cons_zero, List.set_cons_succ])
              refine rg_one (fuel := 1) 6 rfl (by kernel_rfl) (by kernel_rfl) ?_
              simp only [pick1, wpHead]
              intro K hK
              rw [if_pos (by rfl)]
              obtain ⟨ly, ky, fy⟩ := ta.own
              go_simp
              refine hK.out _ _ (put4_other o (by omega)) ?_
              clear hK K ly ky fy
              replace Ga0 := put4_gro (x0 := .slice X0 n0 x0) (x1 := .slice X1 n1 x1) (x2 := .slice X2 n2 x2) (x3 := .int .i64 cw) Ga0 (ta.apart Ga0 (by decide))
              replace Gb0 := put4_gro (x0 := .slice X0 n0 x0) (x1 := .slice X1 n1 x1) (x2 := .slice X2 n2 x2) (x3 := .int .i64 cw) Gb0 (ta.apart Gb0 (by decide))
              replace Ga1 := put4_gro (x0 := .slice X0 n0 x0) (x1 := .slice X1 n1 x1) (x2 := .slice X2 n2 x2) (x3 := .int .i64 cw) Ga1 (ta.apart Ga1 (by decide))
              replace Gb1 := put4_gro (x0 := .slice X0 n0 x0) (x1 := .slice X1 n1 x1) (x2 := .slice X2 n2 x2) (x3 := .int .i64 cw) Gb1 (ta.apart Gb1 (by decide))
              replace Ga2 := put4_gro (x0 := .slice X0 n0 x0) (x1 := .slice X1 n1 x1) (x2 := .slice X2 n2 x2) (x3 := .int .i64 cw) Ga2 (ta.apart Ga2 (by decide))
              replace Gb2 := put4_gro (x0 := .slice X0 n0 x0) (x1 := .slice X1 n1 x1) (x2 := .slice X2 n2 x2) (x3 := .int .i64 cw) Gb2 (ta.apart Gb2 (by decide))
              replace o := put4_other (x0 := .slice X0 n0 x0) (x1 := .slice X1 n1 x1) (x2 := .slice X2 n2 x2) (x3 := .int .i64 cw) (g := ga) o (by omega)
              replace p := put4_other (x0 := .slice X0 n0 x0) (x1 := .slice X1 n1 x1) (x2 := .slice X2 n2 x2) (x3 := .int .i64 cw) (g := ga) p (by omega)
              replace hB := put4_below (x0 := .slice X0 n0 x0) (x1 := .slice X1 n1 x1) (x2 := .slice X2 n2 x2) (x3 := .int .i64 cw) (g := ga) hB (by omega)
              replace tb := put4_ownT (x0 := .slice X0 n0 x0) (x1 := .slice X1 n1 x1) (x2 := .slice X2 n2 x2) (x3 := .int .i64 cw) (g := ga) tb (by omega)
              replace ta := put4_own (x0 := .slice X0 n0 x0) (x1 := .slice X1 n1 x1) (x2 := .slice X2 n2 x2) (x3 := .int .i64 cw) ta
              simp only [put4] at Ga0 Ga1 Ga2 Gb0 Gb1 Gb2 o p hB ta tb
              refine rg_one (fuel := 0) 7 rfl (by kernel_rfl) (by kernel_rfl) ?_
              simp only [pick1, wpHead]
              intro K hK
              rw [if_pos (by rfl)]
              obtain ⟨ly, ky, fy⟩ := tb.own
              go_simp
              refine hK.out _ _ (put4_other o (by omega)) ?_
              clear hK K ly ky fy
              replace Ga0 := put4_gro (x0 := .slice Y0 n0 y0) (x1 := .slice Y1 n1 y1) (x2 := .slice Y2 n2 y2) (x3 := .int .i64 cw) Ga0 (tb.apart Ga0 (by decide))
              replace Gb0 := put4_gro (x0 := .slice Y0 n0 y0) (x1 := .slice Y1 n1 y1) (x2 := .slice Y2 n2 y2) (x3 := .int .i64 cw) Gb0 (tb.apart Gb0 (by decide))
              replace Ga1 := put4_gro (x0 := .slice Y0 n0 y0) (x1 := .slice Y1 n1 y1) (x2 := .slice Y2 n2 y2) (x3 := .int .i64 cw) Ga1 (tb.apart Ga1 (by decide))
              replace Gb1 := put4_gro (x0 := .slice Y0 n0 y0) (x1 := .slice Y1 n1 y1) (x2 := .slice Y2 n2 y2) (x3 := .int .i64 cw) Gb1 (tb.apart Gb1 (by decide))
              replace Ga2 := put4_gro (x0 := .slice Y0 n0 y0) (x1 := .slice Y1 n1 y1) (x2 := .slice Y2 n2 y2) (x3 := .int .i64 cw) Ga2 (tb.apart Ga2 (by decide))
              replace Gb2 := put4_gro (x0 := .slice Y0 n0 y0) (x1 := .slice Y1 n1 y1) (x2 := .slice Y2 n2 y2) (x3 := .int .i64 cw) Gb2 (tb.apart Gb2 (by decide))
              replace o := put4_other (x0 := .slice Y0 n0 y0) (x1 := .slice Y1 n1 y1) (x2 := .slice Y2 n2 y2) (x3 := .int .i64 cw) (g := gb) o (by omega)
              replace p := put4_other (x0 := .slice Y0 n0 y0) (x1 := .slice Y1 n1 y1) (x2 := .slice Y2 n2 y2) (x3 := .int .i64 cw) (g := gb) p (by omega)
              replace hB := put4_below (x0 := .slice Y0 n0 y0) (x1 := .slice Y1 n1 y1) (x2 := .slice Y2 n2 y2) (x3 := .int .i64 cw) (g := gb) hB (by omega)
              replace ta := put4_ownT (x0 := .slice Y0 n0 y0) (x1 := .slice Y1 n1 y1) (x2 := .slice Y2 n2 y2) (x3 := .int .i64 cw) (g := gb) ta (by omega)
              replace tb := put4_own (x0 := .slice Y0 n0 y0) (x1 := .slice Y1 n1 y1) (x2 := .slice Y2 n2 y2) (x3 := .int .i64 cw) tb
              simp only [put4] at Ga0 Ga1 Ga2 Gb0 Gb1 Gb2 o p hB ta tb
              refine rg_done (by kernel_rfl) ?_
              have r := rest ga gb nb X0 X1 X2 Y0 Y1 Y2 x0 x1 x2 y0 y1 y2 _ hB ⟨o, p, ta, tb, Ga0, Ga1, Ga2, Gb0, Gb1, Gb2, la0, la1, la2, hnb, hab, hga, hgb⟩
              simp only [Act.put, List.setIfInBounds_toArray, List.set_cons_zero, List.set_cons_succ] at r
              (try simp only [Act.put, List.setIfInBounds_toArray, List.set_cons_zero, List.set_cons_succ])
              exact r
          · intro K hK
            simp only [pick1, wpHead]
            rw [if_pos (by rfl)]
            go_simp
            have hg := p.lt
            have tb := OwnT.new W' #[.slice none 0 0, .slice none 0 0, .slice none 0 0, .int .i64 0] 26
            have hb := (Below.refl W'.heap.size W').alloc (Nat.le_refl _) (.cells #[.slice none 0 0, .slice none 0 0, .slice none 0 0, .int .i64 0] 26)
            have habx := ta.lt
            have hgb : w.heap.size + 2 ≤ W'.heap.size := p.lt
            obtain ⟨gb, hge⟩ : ∃ g, g = W'.heap.size := ⟨_, rfl⟩
            rw [← hge] at tb hgb habx ⊢
            generalize hWe : World.alloc W' _ = W' at hb tb ⊢
            have hab : ga ≠ gb := by omega
            clear hge hWe hg
            replace o := o.below hb o.lt
            replace p := p.below hb p.lt
            refine hK.out _ _ o ?_
            replace hB := hB.trans (hb.mono hB.size)
            replace Ga0 := Ga0.below hb (Nat.le_refl _)
            replace Ga1 := Ga1.below hb (Nat.le_refl _)
            replace Ga2 := Ga2.below hb (Nat.le_refl _)
            replace ta := ta.below hb ta.lt
            clear hb hK
            (try simp only [Act.put, List.setIfInBounds_toArray, List.set_cons_zero, List.set_cons_succ])
            refine rg_many (fuel := 2) [3] rfl (by simp) (by kernel_rfl) (by kernel_rfl) ?_
            intro c hc
            rcases (show c = 3 by simpa using hc) with rfl
            · intro K hK
              simp only [pick1, wpHead]
              rw [if_pos (by rfl)]
              go_simp
              refine (copy27x A0 A1 A2 n0 n1 n2 c0 c1 c2 cw B D R _ (HC.out.below hB (Nat.le_refl _)) (by omega) (by omega) (by omega)).mono ?_
              rintro e W' ⟨Y0, Y1, Y2, y0, y1, y2, rfl, Gb0, Gb1, Gb2, hb⟩
              have hnb := p.lt
              have la0 := Ga0.2.lt
              have la1 := Ga1.2.lt
              have la2 := Ga2.2.lt
              generalize hnbe : World.heap _ = hp at Gb0 Gb1 Gb2 la0 la1 la2 hnb
              generalize hnbe : Array.size hp = nb at Gb0 Gb1 Gb2 la0 la1 la2 hnb
              go_wp2_with fail
              replace o := o.below hb o.lt
              replace p := p.below hb p.lt
              refine hK.out _ _ o ?_
              replace hB := hB.trans (hb.mono hB.size)
              replace Ga0 := Ga0.below hb (Nat.le_refl _)
              replace Ga1 := Ga1.below hb (Nat.le_refl _)
              replace Ga2 := Ga2.below hb (Nat.le_refl _)
              replace ta := ta.below hb ta.lt
              replace tb := tb.below hb tb.lt
              clear hb hK
              (try simp only [Act.put, List.setIfInBounds_toArray, List.set_cons_zero, List.set_cons_succ])
              refine rg_one (fuel := 1) 6 rfl (by kernel_rfl) (by kernel_rfl) ?_
              simp only [pick1, wpHead]
              intro K hK
              rw [if_pos (by rfl)]
              obtain ⟨ly, ky, fy⟩ := ta.own
              go_simp
              refine hK.out _ _ (put4_other o (by omega)) ?_
              clear hK K ly ky fy
              replace Ga0 := put4_gro (x0 := .slice X0 n0 x0) (x1 := .slice X1 n1 x1) (x2 := .slice X2 n2 x2) (x3 := .int .i64 cw) Ga0 (ta.apart Ga0 (by decide))
              replace Gb0 := put4_gro (x0 := .slice X0 n0 x0) (x1 := .slice X1 n1 x1) (x2 := .slice X2 n2 x2) (x3 := .int .i64 cw) Gb0 (ta.apart Gb0 (by decide))
              replace Ga1 := put4_gro (x0 := .slice X0 n0 x0) (x1 := .slice X1 n1 x1) (x2 := .slice X2 n2 x2) (x3 := .int .i64 cw) Ga1 (ta.apart Ga1 (by decide))
              replace Gb1 := put4_gro (x0 := .slice X0 n0 x0) (x1 := .slice X1 n1 x1) (x2 := .slice X2 n2 x2) (x3 := .int .i64 cw) Gb1 (ta.apart Gb1 (by decide))
              replace Ga2 := put4_gro (x0 := .slice X0 n0 x0) (x1 := .slice X1 n1 x1) (x2 := .slice X2 n2 x2) (x3 := .int .i64 cw) Ga2 (ta.apart Ga2 (by decide))
              replace Gb2 := put4_gro (x0 := .slice X0 n0 x0) (x1 := .slice X1 n1 x1) (x2 := .slice X2 n2 x2) (x3 := .int .i64 cw) Gb2 (ta.apart Gb2 (by decide))
              replace o := put4_other (x0 := .slice X0 n0 x0) (x1 := .slice X1 n1 x1) (x2 := .slice X2 n2 x2) (x3 := .int .i64 cw) (g := ga) o (by omega)
              replace p := put4_other (x0 := .slice X0 n0 x0) (x1 := .slice X1 n1 x1) (x2 := .slice X2 n2 x2) (x3 := .int .i64 cw) (g := ga) p (by omega)
              replace hB := put4_below (x0 := .slice X0 n0 x0) (x1 := .slice X1 n1 x1) (x2 := .slice X2 n2 x2) (x3 := .int .i64 cw) (g := ga) hB (by omega)
              replace tb := put4_ownT (x0 := .slice X0 n0 x0) (x1 := .slice X1 n1 x1) (x2 := .slice X2 n2 x2) (x3 := .int .i64 cw) (g := ga) tb (by omega)
              replace ta := put4_own (x0 := .slice X0 n0 x0) (x1 := .slice X1 n1 x1) (x2 := .slice X2 n2 x2) (x3 := .int .i64 cw) ta
              simp only [put4] at Ga0 Ga1 Ga2 Gb0 Gb1 Gb2 o p hB ta tb
              refine rg_one (fuel := 0) 7 rfl (by kernel_rfl) (by kernel_rfl) ?_
              simp only [pick1, wpHead]
              intro K hK
              rw [if_pos (by rfl)]
              obtain ⟨ly, ky, fy⟩ := tb.own
              go_simp
              refine hK.out _ _ (put4_other o (by omega)) ?_
              clear hK K ly ky fy
              replace Ga0 := put4_gro (x0 := .slice Y0 n0 y0) (x1 := .slice Y1 n1 y1) (x2 := .slice Y2 n2 y2) (x3 := .int .i64 cw) Ga0 (tb.apart Ga0 (by decide))
              replace Gb0 := put4_gro (x0 := .slice Y0 n0 y0) (x1 := .slice Y1 n1 y1) (x2 := .slice Y2 n2 y2) (x3 := .int .i64 cw) Gb0 (tb.apart Gb0 (by decide))
              replace Ga1 := put4_gro (x0 := .slice Y0 n0 y0) (x1 := .slice Y1 n1 y1) (x2 := .slice Y2 n2 y2) (x3 := .int .i64 cw) Ga1 (tb.apart Ga1 (by decide))
              replace Gb1 := put4_gro (x0 := .slice Y0 n0 y0) (x1 := .slice Y1 n1 y1) (x2 := .slice Y2 n2 y2) (x3 := .int .i64 cw) Gb1 (tb.apart Gb1 (by decide))
              replace Ga2 := put4_gro (x0 := .slice Y0 n0 y0) (x1 := .slice Y1 n1 y1) (x2 := .slice Y2 n2 y2) (x3 := .int .i64 cw) Ga2 (tb.apart Ga2 (by decide))
              replace Gb2 := put4_gro (x0 := .slice Y0 n0 y0) (x1 := .slice Y1 n1 y1) (x2 := .slice Y2 n2 y2) (x3 := .int .i64 cw) Gb2 (tb.apart Gb2 (by decide))
              replace o := put4_other (x0 := .slice Y0 n0 y0) (x1 := .slice Y1 n1 y1) (x2 := .slice Y2 n2 y2) (x3 := .int .i64 cw) (g := gb) o (by omega)
              replace p := put4_other (x0 := .slice Y0 n0 y0) (x1 := .slice Y1 n1 y1) (x2 := .slice Y2 n2 y2) (x3 := .int .i64 cw) (g := gb) p (by omega)
              replace hB := put4_below (x0 := .slice Y0 n0 y0) (x1 := .slice Y1 n1 y1) (x2 := .slice Y2 n2 y2) (x3 := .int .i64 cw) (g := gb) hB (by omega)
              replace ta := put4_ownT (x0 := .slice Y0 n0 y0) (x1 := .slice Y1 n1 y1) (x2 := .slice Y2 n2 y2) (x3 := .int .i64 cw) (g := gb) ta (by omega)
              replace tb := put4_own (x0 := .slice Y0 n0 y0) (x1 := .slice Y1 n1 y1) (x2 := .slice Y2 n2 y2) (x3 := .int .i64 cw) tb
              simp only [put4] at Ga0 Ga1 Ga2 Gb0 Gb1 Gb2 o p hB ta tb
              refine rg_done (by kernel_rfl) ?_
              have r := rest ga gb nb X0 X1 X2 Y0 Y1 Y2 x0 x1 x2 y0 y1 y2 _ hB ⟨o, p, ta, tb, Ga0, Ga1, Ga2, Gb0, Gb1, Gb2, la0, la1, la2, hnb, hab, hga, hgb⟩
              simp only [Act.put, List.setIfInBounds_toArray, List.set_cons_zero, List.set_cons_succ] at r
              (try simp only [Act.put, List.setIfInBounds_toArray, List.set_cons_zero, List.set_cons_succ])
              exact r
        · intro K hK
          simp only [pick1, wpHead]
          rw [if_pos (by rfl)]
          go_simp
          have hg := p.lt
          have tb := OwnT.new W' #[.slice none 0 0, .slice none 0 0, .slice none 0 0, .int .i64 0] 26
          have hb := (Below.refl W'.heap.size W').alloc (Nat.le_refl _) (.cells #[.slice none 0 0, .slice none 0 0, .slice none 0 0, .int .i64 0] 26)
          have habx := ta.lt
          have hgb : w.heap.size + 2 ≤ W'.heap.size := p.lt
          obtain ⟨gb, hge⟩ : ∃ g, g = W'.heap.size := ⟨_, rfl⟩
          rw [← hge] at tb hgb habx ⊢
          generalize hWe : World.alloc W' _ = W' at hb tb ⊢
          have hab : ga ≠ gb := by omega
          clear hge hWe hg
          replace o := o.below hb o.lt
          replace p := p.below hb p.lt
          refine hK.out _ _ o ?_
          replace hB := hB.trans (hb.mono hB.size)
          replace ta := ta.below hb ta.lt
          clear hb hK
          (try simp only [Act.put, List.setIfInBounds_toArray, List.set_cons_zero, List.set_cons_succ])
          refine rg_many (fuel := 3) [1] rfl (by simp) (by kernel_rfl) (by kernel_rfl) ?_
          intro c hc
          rcases (show c = 1 by simpa using hc) with rfl
          · intro K hK
            simp only [pick1, wpHead]
            rw [if_pos (by rfl)]
            go_simp
            refine (copy27x A0 A1 A2 n0 n1 n2 c0 c1 c2 cw B D R _ (HC.out.below hB (Nat.le_refl _)) (by omega) (by omega) (by omega)).mono ?_
            rintro e W' ⟨X0, X1, X2, x0, x1, x2, rfl, Ga0, Ga1, Ga2, hb⟩
            replace Ga0 := Ga0.base (base' := w.heap.size + 2) p.lt
            replace Ga1 := Ga1.base (base' := w.heap.size + 2) p.lt
            replace Ga2 := Ga2.base (base' := w.heap.size + 2) p.lt
            go_wp2_with fail
            replace o := o.below hb o.lt
            replace p := p.below hb p.lt
            refine hK.out _ _ o ?_
            replace hB := hB.trans (hb.mono hB.size)
            replace ta := ta.below hb ta.lt
            replace tb := tb.below hb tb.lt
            clear hb hK
            (try simp only [Act.put, List.setIfInBounds_toArray, List.set_cons_zero, List.set_cons_succ])
            refine rg_many (fuel := 2) [3] rfl (by simp) (by kernel_rfl) (by kernel_rfl) ?_
            intro c hc
            rcases (show c = 3 by simpa using hc) with rfl
            · intro K hK
              simp only [pick1, wpHead]
              rw [if_pos (by rfl)]
              go_simp
              refine (copy27x A0 A1 A2 n0 n1 n2 c0 c1 c2 cw B D R _ (HC.out.below hB (Nat.le_refl _)) (by omega) (by omega) (by omega)).mono ?_
              rintro e W' ⟨Y0, Y1, Y2, y0, y1, y2, rfl, Gb0, Gb1, Gb2, hb⟩
              have hnb := p.lt
              have la0 := Ga0.2.lt
              have la1 := Ga1.2.lt
              have la2 := Ga2.2.lt
              generalize hnbe : World.heap _ = hp at Gb0 Gb1 Gb2 la0 la1 la2 hnb
              generalize hnbe : Array.size hp = nb at Gb0 Gb1 Gb2 la0 la1 la2 hnb
              go_wp2_with fail
              replace o := o.below hb o.lt
              replace p := p.below hb p.lt
              refine hK.out _ _ o ?_
              replace hB := hB.trans (hb.mono hB.size)
              replace Ga0 := Ga0.below hb (Nat.le_refl _)
              replace Ga1 := Ga1.below hb (Nat.le_refl _)
              replace Ga2 := Ga2.below hb (Nat.le_refl _)
              replace ta := ta.below hb ta.lt
              replace tb := tb.below hb tb.lt
              clear hb hK
              (try simp only [Act.put, List.setIfInBounds_toArray, List.set_cons_zero, List.set_cons_succ])
              refine rg_one (fuel := 1) 6 rfl (by kernel_rfl) (by kernel_rfl) ?_
              simp only [pick1, wpHead]
              intro K hK
              rw [if_pos (by rfl)]
              obtain ⟨ly, ky, fy⟩ := ta.own
              go_simp
              refine hK.out _ _ (put4_other o (by omega)) ?_
              clear hK K ly ky fy
              replace Ga0 := put4_gro (x0 := .slice X0 n0 x0) (x1 := .slice X1 n1 x1) (x2 := .slice X2 n2 x2) (x3 := .int .i64 cw) Ga0 (ta.apart Ga0 (by decide))
              replace Gb0 := put4_gro (x0 := .slice X0 n0 x0) (x1 := .slice X1 n1 x1) (x2 := .slice X2 n2 x2) (x3 := .int .i64 cw) Gb0 (ta.apart Gb0 (by decide))
              replace Ga1 := put4_gro (x0 := .slice X0 n0 x0) (x1 := .slice X1 n1 x1) (x2 := .slice X2 n2 x2) (x3 := .int .i64 cw) Ga1 (ta.apart Ga1 (by decide))
              replace Gb1 := put4_gro (x0 := .slice X0 n0 x0) (x1 := .slice X1 n1 x1) (x2 := .slice X2 n2 x2) (x3 := .int .i64 cw) Gb1 (ta.apart Gb1 (by decide))
              replace Ga2 := put4_gro (x0 := .slice X0 n0 x0) (x1 := .slice X1 n1 x1) (x2 := .slice X2 n2 x2) (x3 := .int .i64 cw) Ga2 (ta.apart Ga2 (by decide))
              replace Gb2 := put4_gro (x0 := .slice X0 n0 x0) (x1 := .slice X1 n1 x1) (x2 := .slice X2 n2 x2) (x3 := .int .i64 cw) Gb2 (ta.apart Gb2 (by decide))
              replace o := put4_other (x0 := .slice X0 n0 x0) (x1 := .slice X1 n1 x1) (x2 := .slice X2 n2 x2) (x3 := .int .i64 cw) (g := ga) o (by omega)
              replace p := put4_other (x0 := .slice X0 n0 x0) (x1 := .slice X1 n1 x1) (x2 := .slice X2 n2 x2) (x3 := .int .i64 cw) (g := ga) p (by omega)
              replace hB := put4_below (x0 := .slice X0 n0 x0) (x1 := .slice X1 n1 x1) (x2 := .slice X2 n2 x2) (x3 := .int .i64 cw) (g := ga) hB (by omega)
              replace tb := put4_ownT (x0 := .slice X0 n0 x0) (x1 := .slice X1 n1 x1) (x2 := .slice X2 n2 x2) (x3 := .int .i64 cw) (g := ga) tb (by omega)
              replace ta := put4_own (x0 := .slice X0 n0 x0) (x1 := .slice X1 n1 x1) (x2 := .slice X2 n2 x2) (x3 := .int .i64 cw) ta
              simp only [put4] at Ga0 Ga1 Ga2 Gb0 Gb1 Gb2 o p hB ta tb
              refine rg_one (fuel := 0) 7 rfl (by kernel_rfl) (by kernel_rfl) ?_
              simp only [pick1, wpHead]
              intro K hK
              rw [if_pos (by rfl)]
              obtain ⟨ly, ky, fy⟩ := tb.own
              go_simp
              refine hK.out _ _ (put4_other o (by omega)) ?_
              clear hK K ly ky fy
              replace Ga0 := put4_gro (x0 := .slice Y0 n0 y0) (x1 := .slice Y1 n1 y1) (x2 := .slice Y2 n2 y2) (x3 := .int .i64 cw) Ga0 (tb.apart Ga0 (by decide))
              replace Gb0 := put4_gro (x0 := .slice Y0 n0 y0) (x1 := .slice Y1 n1 y1) (x2 := .slice Y2 n2 y2) (x3 := .int .i64 cw) Gb0 (tb.apart Gb0 (by decide))
              replace Ga1 := put4_gro (x0 := .slice Y0 n0 y0) (x1 := .slice Y1 n1 y1) (x2 := .slice Y2 n2 y2) (x3 := .int .i64 cw) Ga1 (tb.apart Ga1 (by decide))
              replace Gb1 := put4_gro (x0 := .slice Y0 n0 y0) (x1 := .slice Y1 n1 y1) (x2 := .slice Y2 n2 y2) (x3 := .int .i64 cw) Gb1 (tb.apart Gb1 (by decide))
              replace Ga2 := put4_gro (x0 := .slice Y0 n0 y0) (x1 := .slice Y1 n1 y1) (x2 := .slice Y2 n2 y2) (x3 := .int .i64 cw) Ga2 (tb.apart Ga2 (by decide))
              replace Gb2 := put4_gro (x0 := .slice Y0 n0 y0) (x1 := .slice Y1 n1 y1) (x2 := .slice Y2 n2 y2) (x3 := .int .i64 cw) Gb2 (tb.apart Gb2 (by decide))
              replace o := put4_other (x0 := .slice Y0 n0 y0) (x1 := .slice Y1 n1 y1) (x2 := .slice Y2 n2 y2) (x3 := .int .i64 cw) (g := gb) o (by omega)
              replace p := put4_other (x0 := .slice Y0 n0 y0) (x1 := .slice Y1 n1 y1) (x2 := .slice Y2 n2 y2) (x3 := .int .i64 cw) (g := gb) p (by omega)
              replace hB := put4_below (x0 := .slice Y0 n0 y0) (x1 := .slice Y1 n1 y1) (x2 := .slice Y2 n2 y2) (x3 := .int .i64 cw) (g := gb) hB (by omega)
              replace ta := put4_ownT (x0 := .slice Y0 n0 y0) (x1 := .slice Y1 n1 y1) (x2 := .slice Y2 n2 y2) (x3 := .int .i64 cw) (g := gb) ta (by omega)
              replace tb := put4_own (x0 := .slice Y0 n0 y0) (x1 := .slice Y1 n1 y1) (x2 := .slice Y2 n2 y2) (x3 := .int .i64 cw) tb
              simp only [put4] at Ga0 Ga1 Ga2 Gb0 Gb1 Gb2 o p hB ta tb
              refine rg_done (by kernel_rfl) ?_
              have r := rest ga gb nb X0 X1 X2 Y0 Y1 Y2 x0 x1 x2 y0 y1 y2 _ hB ⟨o, p, ta, tb, Ga0, Ga1, Ga2, Gb0, Gb1, Gb2, la0, la1, la2, hnb, hab, hga, hgb⟩
              simp only [Act.put, List.setIfInBounds_toArray, List.set_cons_zero, List.set_cons_succ] at r
              (try simp only [Act.put, List.setIfInBounds_toArray, List.set_cons_zero, List.set_cons_succ])
              exact r
      · intro K hK
        simp only [pick1, wpHead]
        rw [if_pos (by rfl)]
        go_simp
        have hg := p.lt
        have tb := OwnT.new W #[.slice none 0 0, .slice none 0 0, .slice none 0 0, .int .i64 0] 26
        have hb := (Below.refl W.heap.size W).alloc (Nat.le_refl _) (.cells #[.slice none 0 0, .slice none 0 0, .slice none 0 0, .int .i64 0] 26)
        have hgb : w.heap.size + 2 ≤ W.heap.size := p.lt
        obtain ⟨gb, hge⟩ : ∃ g, g = W.heap.size := ⟨_, rfl⟩
        rw [← hge] at tb hgb ⊢
        generalize hWe : World.alloc W _ = W' at hb tb ⊢
        clear hge hWe hg
        replace o := o.below hb o.lt
        replace p := p.below hb p.lt
        refine hK.out _ _ o ?_
        replace hB := hB.trans (hb.mono hB.size)
        clear hb hK
        (try simp only [Act.put, List.setIfInBounds_toArray, List.set_cons_zero, List.set_cons_succ])
        refine rg_many (fuel := 4) [1, 4] rfl (by simp) (by kernel_rfl) (by kernel_rfl) ?_
        intro c hc
        rcases (show c = 1 ∨ c = 4 by simpa using hc) with rfl | rfl
        · intro K hK
          simp only [pick1, wpHead]
          rw [if_pos (by rfl)]
          go_simp
          refine (copy27x A0 A1 A2 n0 n1 n2 c0 c1 c2 cw B D R _ (HC.out.below hB (Nat.le_refl _)) (by omega) (by omega) (by omega)).mono ?_
          rintro e W' ⟨X0, X1, X2, x0, x1, x2, rfl, Ga0, Ga1, Ga2, hb⟩
          replace Ga0 := Ga0.base (base' := w.heap.size + 2) p.lt
          replace Ga1 := Ga1.base (base' := w.heap.size + 2) p.lt
          replace Ga2 := Ga2.base (base' := w.heap.size + 2) p.lt
          go_wp2_with fail
          replace o := o.below hb o.lt
          replace p := p.below hb p.lt
          refine hK.out _ _ o ?_
          replace hB := hB.trans (hb.mono hB.size)
          replace tb := tb.below hb tb.lt
          clear hb hK
          (try simp only [Act.put, List.setIfInBounds_toArray, List.set_cons_zero, List.set_cons_succ])
          refine rg_many (fuel := 3) [3, 4] rfl (by simp) (by kernel_rfl) (by kernel_rfl) ?_
          intro c hc
          rcases (show c = 3 ∨ c = 4 by simpa using hc) with rfl | rfl
          · intro K hK
            simp only [pick1, wpHead]
            rw [if_pos (by rfl)]
            go_simp
            refine (copy27x A0 A1 A2 n0 n1 n2 c0 c1 c2 cw B D R _ (HC.out.below hB (Nat.le_refl _)) (by omega) (by omega) (by omega)).mono ?_
            rintro e W' ⟨Y0, Y1, Y2, y0, y1, y2, rfl, Gb0, Gb1, Gb2, hb⟩
            have hnb := p.lt
            have la0 := Ga0.2.lt
            have la1 := Ga1.2.lt
            have la2 := Ga2.2.lt
            generalize hnbe : World.heap _ = hp at Gb0 Gb1 Gb2 la0 la1 la2 hnb
            generalize hnbe : Array.size hp = nb at Gb0 Gb1 Gb2 la0 la1 la2 hnb
            go_wp2_with fail
            replace o := o.below hb o.lt
            replace p := p.below hb p.lt
            refine hK.out _ _ o ?_
            replace hB := hB.trans (hb.mono hB.size)
            replace Ga0 := Ga0.below hb (Nat.le_refl _)
            replace Ga1 := Ga1.below hb (Nat.le_refl _)
            replace Ga2 := Ga2.below hb (Nat.le_refl _)
            replace tb := tb.below hb tb.lt
            clear hb hK
            (try simp only [Act.put, List.setIfInBounds_toArray, List.set_cons_zero, List.set_cons_succ])
            refine rg_many (fuel := 2) [4] rfl (by simp) (by kernel_rfl) (by kernel_rfl) ?_
            intro c hc
            rcases (show c = 4 by simpa using hc) with rfl
            · intro K hK
              simp only [pick1, wpHead]
              rw [if_pos (by rfl)]
              go_simp
              have hg := p.lt
              have ta := OwnT.new W' #[.slice none 0 0, .slice none 0 0, .slice none 0 0, .int .i64 0] 26
              have hb := (Below.refl W'.heap.size W').alloc (Nat.le_refl _) (.cells #[.slice none 0 0, .slice none 0 0, .slice none 0 0, .int .i64 0] 26)
              have habx := tb.lt
              have hga : w.heap.size + 2 ≤ W'.heap.size := p.lt
              obtain ⟨ga, hge⟩ : ∃ g, g = W'.heap.size := ⟨_, rfl⟩
              rw [← hge] at ta hga habx ⊢
              generalize hWe : World.alloc W' _ = W' at hb ta ⊢
              have hab : ga ≠ gb := by omega
              clear hge hWe hg
              replace o := o.below hb o.lt
              replace p := p.below hb p.lt
              refine hK.out _ _ o ?_
              replace hB := hB.trans (hb.mono hB.size)
              replace Ga0 := Ga0.below hb (Nat.le_refl _)
              replace Ga1 := Ga1.below hb (Nat.le_refl _)
              replace Ga2 := Ga2.below hb (Nat.le_refl _)
              replace Gb0 := Gb0.below hb (Nat.le_refl _)
              replace Gb1 := Gb1.below hb (Nat.le_refl _)
              replace Gb2 := Gb2.below hb (Nat.le_refl _)
              replace tb := tb.below hb tb.lt
              clear hb hK
              (try simp only [Act.put, List.setIfInBounds_toArray, List.set_cons_zero, List.set_cons_succ])
              refine rg_one (fuel := 1) 6 rfl (by kernel_rfl) (by kernel_rfl) ?_
              simp only [pick1, wpHead]
              intro K hK
              rw [if_pos (by rfl)]
              obtain ⟨ly, ky, fy⟩ := ta.own
              go_simp
              refine hK.out _ _ (put4_other o (by omega)) ?_
              clear hK K ly ky fy
              replace Ga0 := put4_gro (x0 := .slice X0 n0 x0) (x1 := .slice X1 n1 x1) (x2 := .slice X2 n2 x2) (x3 := .int .i64 cw) Ga0 (ta.apart Ga0 (by decide))
              replace Gb0 := put4_gro (x0 := .slice X0 n0 x0) (x1 := .slice X1 n1 x1) (x2 := .slice X2 n2 x2) (x3 := .int .i64 cw) Gb0 (ta.apart Gb0 (by decide))
              replace Ga1 := put4_gro (x0 := .slice X0 n0 x0) (x1 := .slice X1 n1 x1) (x2 := .slice X2 n2 x2) (x3 := .int .i64 cw) Ga1 (ta.apart Ga1 (by decide))
              replace Gb1 := put4_gro (x0 := .slice X0 n0 x0) (x1 := .slice X1 n1 x1) (x2 := .slice X2 n2 x2) (x3 := .int .i64 cw) Gb1 (ta.apart Gb1 (by decide))
              replace Ga2 := put4_gro (x0 := .slice X0 n0 x0) (x1 := .slice X1 n1 x1) (x2 := .slice X2 n2 x2) (x3 := .int .i64 cw) Ga2 (ta.apart Ga2 (by decide))
              replace Gb2 := put4_gro (x0 := .slice X0 n0 x0) (x1 := .slice X1 n1 x1) (x2 := .slice X2 n2 x2) (x3 := .int .i64 cw) Gb2 (ta.apart Gb2 (by decide))
              replace o := put4_other (x0 := .slice X0 n0 x0) (x1 := .slice X1 n1 x1) (x2 := .slice X2 n2 x2) (x3 := .int .i64 cw) (g := ga) o (by omega)
              replace p := put4_other (x0 := .slice X0 n0 x0) (x1 := .slice X1 n1 x1) (x2 := .slice X2 n2 x2) (x3 := .int .i64 cw) (g := ga) p (by omega)
              replace hB := put4_below (x0 := .slice X0 n0 x0) (x1 := .slice X1 n1 x1) (x2 := .slice X2 n2 x2) (x3 := .int .i64 cw) (g := ga) hB (by omega)
              replace tb := put4_ownT (x0 := .slice X0 n0 x0) (x1 := .slice X1 n1 x1) (x2 := .slice X2 n2 x2) (x3 := .int .i64 cw) (g := ga) tb (by omega)
              replace ta := put4_own (x0 := .slice X0 n0 x0) (x1 := .slice X1 n1 x1) (x2 := .slice X2 n2 x2) (x3 := .int .i64 cw) ta
              simp only [put4] at Ga0 Ga1 Ga2 Gb0 Gb1 Gb2 o p hB ta tb
              refine rg_one (fuel := 0) 7 rfl (by kernel_rfl) (by kernel_rfl) ?_
              simp only [pick1, wpHead]
              intro K hK
              rw [if_pos (by rfl)]
              obtain ⟨ly, ky, fy⟩ := tb.own
              go_simp
              refine hK.out _ _ (put4_other o (by omega)) ?_
              clear hK K ly ky fy
              replace Ga0 := put4_gro (x0 := .slice Y0 n0 y0) (x1 := .slice Y1 n1 y1) (x2 := .slice Y2 n2 y2) (x3 := .int .i64 cw) Ga0 (tb.apart Ga0 (by decide))
              replace Gb0 := put4_gro (x0 := .slice Y0 n0 y0) (x1 := .slice Y1 n1 y1) (x2 := .slice Y2 n2 y2) (x3 := .int .i64 cw) Gb0 (tb.apart Gb0 (by decide))
              replace Ga1 := put4_gro (x0 := .slice Y0 n0 y0) (x1 := .slice Y1 n1 y1) (x2 := .slice Y2 n2 y2) (x3 := .int .i64 cw) Ga1 (tb.apart Ga1 (by decide))
              replace Gb1 := put4_gro (x0 := .slice Y0 n0 y0) (x1 := .slice Y1 n1 y1) (x2 := .slice Y2 n2 y2) (x3 := .int .i64 cw) Gb1 (tb.apart Gb1 (by decide))
              replace Ga2 := put4_gro (x0 := .slice Y0 n0 y0) (x1 := .slice Y1 n1 y1) (x2 := .slice Y2 n2 y2) (x3 := .int .i64 cw) Ga2 (tb.apart Ga2 (by decide))
              replace Gb2 := put4_gro (x0 := .slice Y0 n0 y0) (x1 := .slice Y1 n1 y1) (x2 := .slice Y2 n2 y2) (x3 := .int .i64 cw) Gb2 (tb.apart Gb2 (by decide))
              replace o := put4_other (x0 := .slice Y0 n0 y0) (x1 := .slice Y1 n1 y1) (x2 := .slice Y2 n2 y2) (x3 := .int .i64 cw) (g := gb) o (by omega)
              replace p := put4_other (x0 := .slice Y0 n0 y0) (x1 := .slice Y1 n1 y1) (x2 := .slice Y2 n2 y2) (x3 := .int .i64 cw) (g := gb) p (by omega)
              replace hB := put4_below (x0 := .slice Y0 n0 y0) (x1 := .slice Y1 n1 y1) (x2 := .slice Y2 n2 y2) (x3 := .int .i64 cw) (g := gb) hB (by omega)
              replace ta := put4_ownT (x0 := .slice Y0 n0 y0) (x1 := .slice Y1 n1 y1) (x2 := .slice Y2 n2 y2) (x3 := .int .i64 cw) (g := gb) ta (by omega)
              replace tb := put4_own (x0 := .slice Y0 n0 y0) (x1 := .slice Y1 n1 y1) (x2 := .slice Y2 n2 y2) (x3 := .int .i64 cw) tb
              simp only [put4] at Ga0 Ga1 Ga2 Gb0 Gb1 Gb2 o p hB ta tb
              refine rg_done (by kernel_rfl) ?_
              have r := rest ga gb nb X0 X1 X2 Y0 Y1 Y2 x0 x1 x2 y0 y1 y2 _ hB ⟨o, p, ta, tb, Ga0, Ga1, Ga2, Gb0, Gb1, Gb2, la0, la1, la2, hnb, hab, hga, hgb⟩
              simp only [Act.put, List.setIfInBounds_toArray, List.set_cons_zero, List.set_cons_succ] at r
              (try simp only [Act.put, List.setIfInBounds_toArray, List.set_cons_zero, List.set_cons_succ])
              exact r
          · intro K hK
            simp only [pick1, wpHead]
            rw [if_pos (by rfl)]
            go_simp
            have hg := p.lt
            have ta := OwnT.new W' #[.slice none 0 0, .slice none 0 0, .slice none 0 0, .int .i64 0] 26
            have hb := (Below.refl W'.heap.size W').alloc (Nat.le_refl _) (.cells #[.slice none 0 0, .slice none 0 0, .slice none 0 0, .int .i64 0] 26)
            have habx := tb.lt
            have hga : w.heap.size + 2 ≤ W'.heap.size := p.lt
            obtain ⟨ga, hge⟩ : ∃ g, g = W'.heap.size := ⟨_, rfl⟩
            rw [← hge] at ta hga habx ⊢
            generalize hWe : World.alloc W' _ = W' at hb ta ⊢
            have hab : ga ≠ gb := by omega
            clear hge hWe hg
            replace o := o.below hb o.lt
            replace p := p.below hb p.lt
            refine hK.out _ _ o ?_
            replace hB := hB.trans (hb.mono hB.size)
            replace Ga0 := Ga0.below hb (Nat.le_refl _)
            replace Ga1 := Ga1.below hb (Nat.le_refl _)
            replace Ga2 := Ga2.below hb (Nat.le_refl _)
            replace tb := tb.below hb tb.lt
            clear hb hK
            (try simp only [Act.put, List.setIfInBounds_toArray, List.set_cons_zero, List.set_cons_succ])
            refine rg_many (fuel := 2) [3] rfl (by simp) (by kernel_rfl) (by kernel_rfl) ?_
            intro c hc
            rcases (show c = 3 by simpa using hc) with rfl
            · intro K hK
              simp only [pick1, wpHead]
              rw [if_pos (by rfl)]
              go_simp
              refine (copy27x A0 A1 A2 n0 n1 n2 c0 c1 c2 cw B D R _ (HC.out.below hB (Nat.le_refl _)) (by omega) (by omega) (by omega)).mono ?_
              rintro e W' ⟨Y0, Y1, Y2, y0, y1, y2, rfl, Gb0, Gb1, Gb2, hb⟩
              have hnb := p.lt
              have la0 := Ga0.2.lt
              have la1 := Ga1.2.lt
              have la2 := Ga2.2.lt
              generalize hnbe : World.heap _ = hp at Gb0 Gb1 Gb2 la0 la1 la2 hnb
              generalize hnbe : Array.size hp = nb at Gb0 Gb1 Gb2 la0 la1 la2 hnb
              go_wp2_with fail
              replace o := o.below hb o.lt
              replace p := p.below hb p.lt
              refine hK.out _ _ o ?_
              replace hB := hB.trans (hb.mono hB.size)
              replace Ga0 := Ga0.below hb (Nat.le_refl _)
              replace Ga1 := Ga1.below hb (Nat.le_refl _)
              replace Ga2 := Ga2.below hb (Nat.le_refl _)
              replace ta := ta.below hb ta.lt
              replace tb := tb.below hb tb.lt
              clear hb hK
              (try simp only [Act.put, List.setIfInBounds_toArray, List.set_cons_zero, List.set_cons_succ])
              refine rg_one (fuel := 1) 6 rfl (by kernel_rfl) (by kernel_rfl) ?_
              simp only [pick1, wpHead]
              intro K hK
              rw [if_pos (by rfl)]
              obtain ⟨ly, ky, fy⟩ := ta.own
              go_simp
              refine hK.out _ _ (put4_other o (by omega)) ?_
              clear hK K ly ky fy
              replace Ga0 := put4_gro (x0 := .slice X0 n0 x0) (x1 := .slice X1 n1 x1) (x2 := .slice X2 n2 x2) (x3 := .int .i64 cw) Ga0 (ta.apart Ga0 (by decide))
              replace Gb0 := put4_gro (x0 := .slice X0 n0 x0) (x1 := .slice X1 n1 x1) (x2 := .slice X2 n2 x2) (x3 := .int .i64 cw) Gb0 (ta.apart Gb0 (by decide))
              replace Ga1 := put4_gro (x0 := .slice X0 n0 x0) (x1 := .slice X1 n1 x1) (x2 := .slice X2 n2 x2) (x3 := .int .i64 cw) Ga1 (ta.apart Ga1 (by decide))
              replace Gb1 := put4_gro (x0 := .slice X0 n0 x0) (x1 := .slice X1 n1 x1) (x2 := .slice X2 n2 x2) (x3 := .int .i64 cw) Gb1 (ta.apart Gb1 (by decide))
              replace Ga2 := put4_gro (x0 := .slice X0 n0 x0) (x1 := .slice X1 n1 x1) (x2 := .slice X2 n2 x2) (x3 := .int .i64 cw) Ga2 (ta.apart Ga2 (by decide))
              replace Gb2 := put4_gro (x0 := .slice X0 n0 x0) (x1 := .slice X1 n1 x1) (x2 := .slice X2 n2 x2) (x3 := .int .i64 cw) Gb2 (ta.apart Gb2 (by decide))
              replace o := put4_other (x0 := .slice X0 n0 x0) (x1 := .slice X1 n1 x1) (x2 := .slice X2 n2 x2) (x3 := .int .i64 cw) (g := ga) o (by omega)
              replace p := put4_other (x0 := .slice X0 n0 x0) (x1 := .slice X1 n1 x1) (x2 := .slice X2 n2 x2) (x3 := .int .i64 cw) (g := ga) p (by omega)
              replace hB := put4_below (x0 := .slice X0 n0 x0) (x1 := .slice X1 n1 x1) (x2 := .slice X2 n2 x2) (x3 := .int .i64 cw) (g := ga) hB (by omega)
              replace tb := put4_ownT (x0 := .slice X0 n0 x0) (x1 := .slice X1 n1 x1) (x2 := .slice X2 n2 x2) (x3 := .int .i64 cw) (g := ga) tb (by omega)
              replace ta := put4_own (x0 := .slice X0 n0 x0) (x1 := .slice X1 n1 x1) (x2 := .slice X2 n2 x2) (x3 := .int .i64 cw) ta
              simp only [put4] at Ga0 Ga1 Ga2 Gb0 Gb1 Gb2 o p hB ta tb
              refine rg_one (fuel := 0) 7 rfl (by kernel_rfl) (by kernel_rfl) ?_
              simp only [pick1, wpHead]
              intro K hK
              rw [if_pos (by rfl)]
              obtain ⟨ly, ky, fy⟩ := tb.own
              go_simp
              refine hK.out _ _ (put4_other o (by omega)) ?_
              clear hK K ly ky fy
              replace Ga0 := put4_gro (x0 := .slice Y0 n0 y0) (x1 := .slice Y1 n1 y1) (x2 := .slice Y2 n2 y2) (x3 := .int .i64 cw) Ga0 (tb.apart Ga0 (by decide))
              replace Gb0 := put4_gro (x0 := .slice Y0 n0 y0) (x1 := .slice Y1 n1 y1) (x2 := .slice Y2 n2 y2) (x3 := .int .i64 cw) Gb0 (tb.apart Gb0 (by decide))
              replace Ga1 := put4_gro (x0 := .slice Y0 n0 y0) (x1 := .slice Y1 n1 y1) (x2 := .slice Y2 n2 y2) (x3 := .int .i64 cw) Ga1 (tb.apart Ga1 (by decide))
              replace Gb1 := put4_gro (x0 := .slice Y0 n0 y0) (x1 := .slice Y1 n1 y1) (x2 := .slice Y2 n2 y2) (x3 := .int .i64 cw) Gb1 (tb.apart Gb1 (by decide))
              replace Ga2 := put4_gro (x0 := .slice Y0 n0 y0) (x1 := .slice Y1 n1 y1) (x2 := .slice Y2 n2 y2) (x3 := .int .i64 cw) Ga2 (tb.apart Ga2 (by decide))
              replace Gb2 := put4_gro (x0 := .slice Y0 n0 y0) (x1 := .slice Y1 n1 y1) (x2 := .slice Y2 n2 y2) (x3 := .int .i64 cw) Gb2 (tb.apart Gb2 (by decide))
              replace o := put4_other (x0 := .slice Y0 n0 y0) (x1 := .slice Y1 n1 y1) (x2 := .slice Y2 n2 y2) (x3 := .int .i64 cw) (g := gb) o (by omega)
              replace p := put4_other (x0 := .slice Y0 n0 y0) (x1 := .slice Y1 n1 y1) (x2 := .slice Y2 n2 y2) (x3 := .int .i64 cw) (g := gb) p (by omega)
              replace hB := put4_below (x0 := .slice Y0 n0 y0) (x1 := .slice Y1 n1 y1) (x2 := .slice Y2 n2 y2) (x3 := .int .i64 cw) (g := gb) hB (by omega)
              replace ta := put4_ownT (x0 := .slice Y0 n0 y0) (x1 := .slice Y1 n1 y1) (x2 := .slice Y2 n2 y2) (x3 := .int .i64 cw) (g := gb) ta (by omega)
              replace tb := put4_own (x0 := .slice Y0 n0 y0) (x1 := .slice Y1 n1 y1) (x2 := .slice Y2 n2 y2) (x3 := .int .i64 cw) tb
              simp only [put4] at Ga0 Ga1 Ga2 Gb0 Gb1 Gb2 o p hB ta tb
              refine rg_done (by kernel_rfl) ?_
              have r := rest ga gb nb X0 X1 X2 Y0 Y1 Y2 x0 x1 x2 y0 y1 y2 _ hB ⟨o, p, ta, tb, Ga0, Ga1, Ga2, Gb0, Gb1, Gb2, la0, la1, la2, hnb, hab, hga, hgb⟩
              simp only [Act.put, List.setIfInBounds_toArray, List.set_cons_zero, List.set_cons_succ] at r
              (try simp only [Act.put, List.setIfInBounds_toArray, List.set_cons_zero, List.set_cons_succ])
              exact r
        · intro K hK
          simp only [pick1, wpHead]
          rw [if_pos (by rfl)]
          go_simp
          have hg := p.lt
          have ta := OwnT.new W' #[.slice none 0 0, .slice none 0 0, .slice none 0 0, .int .i64 0] 26
          have hb := (Below.refl W'.heap.size W').alloc (Nat.le_refl _) (.cells #[.slice none 0 0, .slice none 0 0, .slice none 0 0, .int .i64 0] 26)
          have habx := tb.lt
          have hga : w.heap.size + 2 ≤ W'.heap.size := p.lt
          obtain ⟨ga, hge⟩ : ∃ g, g = W'.heap.size := ⟨_, rfl⟩
          rw [← hge] at ta hga habx ⊢
          generalize hWe : World.alloc W' _ = W' at hb ta ⊢
          have hab : ga ≠ gb := by omega
          clear hge hWe hg
          replace o := o.below hb o.lt
          replace p := p.below hb p.lt
          refine hK.out _ _ o ?_
          replace hB := hB.trans (hb.mono hB.size)
          replace tb := tb.below hb tb.lt
          clear hb hK
          (try simp only [Act.put, List.setIfInBounds_toArray, List.set_cons_zero, List.set_cons_succ])
          refine rg_many (fuel := 3) [1] rfl (by simp) (by kernel_rfl) (by kernel_rfl) ?_
          intro c hc
          rcases (show c = 1 by simpa using hc) with rfl
          · intro K hK
            simp only [pick1, wpHead]
            rw [if_pos (by rfl)]
            go_simp
            refine (copy27x A0 A1 A2 n0 n1 n2 c0 c1 c2 cw B D R _ (HC.out.below hB (Nat.le_refl _)) (by omega) (by omega) (by omega)).mono ?_
            rintro e W' ⟨X0, X1, X2, x0, x1, x2, rfl, Ga0, Ga1, Ga2, hb⟩
            replace Ga0 := Ga0.base (base' := w.heap.size + 2) p.lt
            replace Ga1 := Ga1.base (base' := w.heap.size + 2) p.lt
            replace Ga2 := Ga2.base (base' := w.heap.size + 2) p.lt
            go_wp2_with fail
            replace o := o.below hb o.lt
            replace p := p.below hb p.lt
            refine hK.out _ _ o ?_
            replace hB := hB.trans (hb.mono hB.size)
            replace ta := ta.below hb ta.lt
            replace tb := tb.below hb tb.lt
            clear hb hK
            (try simp only [Act.put, List.setIfInBounds_toArray, List.set_cons_zero, List.set_cons_succ])
            refine rg_many (fuel := 2) [3] rfl (by simp) (by kernel_rfl) (by kernel_rfl) ?_
            intro c hc
            rcases (show c = 3 by simpa using hc) with rfl
            · intro K hK
              simp only [pick1, wpHead]
              rw [if_pos (by rfl)]
              go_simp
              refine (copy27x A0 A1 A2 n0 n1 n2 c0 c1 c2 cw B D R _ (HC.out.below hB (Nat.le_refl _)) (by omega) (by omega) (by omega)).mono ?_
              rintro e W' ⟨Y0, Y1, Y2, y0, y1, y2, rfl, Gb0, Gb1, Gb2, hb⟩
              have hnb := p.lt
              have la0 := Ga0.2.lt
              have la1 := Ga1.2.lt
              have la2 := Ga2.2.lt
              generalize hnbe : World.heap _ = hp at Gb0 Gb1 Gb2 la0 la1 la2 hnb
              generalize hnbe : Array.size hp = nb at Gb0 Gb1 Gb2 la0 la1 la2 hnb
              go_wp2_with fail
              replace o := o.below hb o.lt
              replace p := p.below hb p.lt
              refine hK.out _ _ o ?_
              replace hB := hB.trans (hb.mono hB.size)
              replace Ga0 := Ga0.below hb (Nat.le_refl _)
              replace Ga1 := Ga1.below hb (Nat.le_refl _)
              replace Ga2 := Ga2.below hb (Nat.le_refl _)
              replace ta := ta.below hb ta.lt
              replace tb := tb.below hb tb.lt
              clear hb hK
              (try simp only [Act.put, List.setIfInBounds_toArray, List.set_cons_zero, List.set_cons_succ])
              refine rg_one (fuel := 1) 6 rfl (by kernel_rfl) (by kernel_rfl) ?_
              simp only [pick1, wpHead]
              intro K hK
              rw [if_pos (by rfl)]
              obtain ⟨ly, ky, fy⟩ := ta.own
              go_simp
              refine hK.out _ _ (put4_other o (by omega)) ?_
              clear hK K ly ky fy
              replace Ga0 := put4_gro (x0 := .slice X0 n0 x0) (x1 := .slice X1 n1 x1) (x2 := .slice X2 n2 x2) (x3 := .int .i64 cw) Ga0 (ta.apart Ga0 (by decide))
              replace Gb0 := put4_gro (x0 := .slice X0 n0 x0) (x1 := .slice X1 n1 x1) (x2 := .slice X2 n2 x2) (x3 := .int .i64 cw) Gb0 (ta.apart Gb0 (by decide))
              replace Ga1 := put4_gro (x0 := .slice X0 n0 x0) (x1 := .slice X1 n1 x1) (x2 := .slice X2 n2 x2) (x3 := .int .i64 cw) Ga1 (ta.apart Ga1 (by decide))
              replace Gb1 := put4_gro (x0 := .slice X0 n0 x0) (x1 := .slice X1 n1 x1) (x2 := .slice X2 n2 x2) (x3 := .int .i64 cw) Gb1 (ta.apart Gb1 (by decide))
              replace Ga2 := put4_gro (x0 := .slice X0 n0 x0) (x1 := .slice X1 n1 x1) (x2 := .slice X2 n2 x2) (x3 := .int .i64 cw) Ga2 (ta.apart Ga2 (by decide))
              replace Gb2 := put4_gro (x0 := .slice X0 n0 x0) (x1 := .slice X1 n1 x1) (x2 := .slice X2 n2 x2) (x3 := .int .i64 cw) Gb2 (ta.apart Gb2 (by decide))
              replace o := put4_other (x0 := .slice X0 n0 x0) (x1 := .slice X1 n1 x1) (x2 := .slice X2 n2 x2) (x3 := .int .i64 cw) (g := ga) o (by omega)
              replace p := put4_other (x0 := .slice X0 n0 x0) (x1 := .slice X1 n1 x1) (x2 := .slice X2 n2 x2) (x3 := .int .i64 cw) (g := ga) p (by omega)
              replace hB := put4_below (x0 := .slice X0 n0 x0) (x1 := .slice X1 n1 x1) (x2 := .slice X2 n2 x2) (x3 := .int .i64 cw) (g := ga) hB (by omega)
              replace tb := put4_ownT (x0 := .slice X0 n0 x0) (x1 := .slice X1 n1 x1) (x2 := .slice X2 n2 x2) (x3 := .int .i64 cw) (g := ga) tb (by omega)
              replace ta := put4_own (x0 := .slice X0 n0 x0) (x1 := .slice X1 n1 x1) (x2 := .slice X2 n2 x2) (x3 := .int .i64 cw) ta
              simp only [put4] at Ga0 Ga1 Ga2 Gb0 Gb1 Gb2 o p hB ta tb
              refine rg_one (fuel := 0) 7 rfl (by kernel_rfl) (by kernel_rfl) ?_
              simp only [pick1, wpHead]
              intro K hK
              rw [if_pos (by rfl)]
              obtain ⟨ly, ky, fy⟩ := tb.own
              go_simp
              refine hK.out _ _ (put4_other o (by omega)) ?_
              clear hK K ly ky fy
              replace Ga0 := put4_gro (x0 := .slice Y0 n0 y0) (x1 := .slice Y1 n1 y1) (x2 := .slice Y2 n2 y2) (x3 := .int .i64 cw) Ga0 (tb.apart Ga0 (by decide))
              replace Gb0 := put4_gro (x0 := .slice Y0 n0 y0) (x1 := .slice Y1 n1 y1) (x2 := .slice Y2 n2 y2) (x3 := .int .i64 cw) Gb0 (tb.apart Gb0 (by decide))
              replace Ga1 := put4_gro (x0 := .slice Y0 n0 y0) (x1 := .slice Y1 n1 y1) (x2 := .slice Y2 n2 y2) (x3 := .int .i64 cw) Ga1 (tb.apart Ga1 (by decide))
              replace Gb1 := put4_gro (x0 := .slice Y0 n0 y0) (x1 := .slice Y1 n1 y1) (x2 := .slice Y2 n2 y2) (x3 := .int .i64 cw) Gb1 (tb.apart Gb1 (by decide))
              replace Ga2 := put4_gro (x0 := .slice Y0 n0 y0) (x1 := .slice Y1 n1 y1) (x2 := .slice Y2 n2 y2) (x3 := .int .i64 cw) Ga2 (tb.apart Ga2 (by decide))
              replace Gb2 := put4_gro (x0 := .slice Y0 n0 y0) (x1 := .slice Y1 n1 y1) (x2 := .slice Y2 n2 y2) (x3 := .int .i64 cw) Gb2 (tb.apart Gb2 (by decide))
              replace o := put4_other (x0 := .slice Y0 n0 y0) (x1 := .slice Y1 n1 y1) (x2 := .slice Y2 n2 y2) (x3 := .int .i64 cw) (g := gb) o (by omega)
              replace p := put4_other (x0 := .slice Y0 n0 y0) (x1 := .slice Y1 n1 y1) (x2 := .slice Y2 n2 y2) (x3 := .int .i64 cw) (g := gb) p (by omega)
              replace hB := put4_below (x0 := .slice Y0 n0 y0) (x1 := .slice Y1 n1 y1) (x2 := .slice Y2 n2 y2) (x3 := .int .i64 cw) (g := gb) hB (by omega)
              replace ta := put4_ownT (x0 := .slice Y0 n0 y0) (x1 := .slice Y1 n1 y1) (x2 := .slice Y2 n2 y2) (x3 := .int .i64 cw) (g := gb) ta (by omega)
              replace tb := put4_own (x0 := .slice Y0 n0 y0) (x1 := .slice Y1 n1 y1) (x2 := .slice Y2 n2 y2) (x3 := .int .i64 cw) tb
              simp only [put4] at Ga0 Ga1 Ga2 Gb0 Gb1 Gb2 o p hB ta tb
              refine rg_done (by kernel_rfl) ?_
              have r := rest ga gb nb X0 X1 X2 Y0 Y1 Y2 x0 x1 x2 y0 y1 y2 _ hB ⟨o, p, ta, tb, Ga0, Ga1, Ga2, Gb0, Gb1, Gb2, la0, la1, la2, hnb, hab, hga, hgb⟩
              simp only [Act.put, List.setIfInBounds_toArray, List.set_cons_zero, List.set_cons_succ] at r
              (try simp only [Act.put, List.setIfInBounds_toArray, List.set_cons_zero, List.set_cons_succ])
              exact r

end Go.Proofs.YtibkgnnpmidgfaaDoor
