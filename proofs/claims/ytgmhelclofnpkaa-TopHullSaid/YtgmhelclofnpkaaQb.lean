/- Walks: the reference's two sides that meet. -/
import Derived.Test.YtgmhelclofnpkaaQa
namespace Go.Proofs.Ytgmhelclofnpkaa
open Go.RowKit

theorem apart_sg (a b p q : P2) : Pl.apart a b p q = decide (sg (Pl.turn a b p) * sg (Pl.turn a b q) < 0) := by
  rw [Bool.eq_iff_iff, decide_eq_true_eq, sg_lt]
  simp [Pl.apart]
abbrev meW (w : World) (x0 x1 x2 x3 y0 y1 y2 y3 : Int) : World := (((w.alloc (.cells #[.int .i64 x0, .int .i64 x1] 53)).alloc (.cells #[.int .i64 x2, .int .i64 x3] 53)).alloc (.cells #[.int .i64 y0, .int .i64 y1] 53)).alloc (.cells #[.int .i64 y2, .int .i64 y3] 53)
structure MeS (n : Nat) (x0 x1 x2 x3 y0 y1 y2 y3 : Int) (w : World) : Prop where
  a : Own w n [.int .i64 x0, .int .i64 x1]
  b : Own w (n + 1) [.int .i64 x2, .int .i64 x3]
  c : Own w (n + 1 + 1) [.int .i64 y0, .int .i64 y1]
  d : Own w (n + 1 + 1 + 1) [.int .i64 y2, .int .i64 y3]
theorem MeS.below {n : Nat} {x0 x1 x2 x3 y0 y1 y2 y3 : Int} {w w' : World} (h : MeS n x0 x1 x2 x3 y0 y1 y2 y3 w) (hb : Below w.heap.size w w') : MeS n x0 x1 x2 x3 y0 y1 y2 y3 w' := ⟨h.a.below hb h.a.lt, h.b.below hb h.b.lt, h.c.below hb h.c.lt, h.d.below hb h.d.lt⟩
set_option maxHeartbeats 4000000 in
/-- The last part, where no end is on the other side. -/
theorem rmeetT (x0 x1 x2 x3 y0 y1 y2 y3 m n p q : Int) (w : World)
    (hO1 : ∀ w, Calls Try.prog 30 #[.agg #[.int .i64 x0, .int .i64 x1], .agg #[.int .i64 x2, .int .i64 x3], .agg #[.int .i64 y0, .int .i64 y1]] w fun e w' => e = .returned (.bool false) ∧ Below w.heap.size w w')
    (hO2 : ∀ w, Calls Try.prog 30 #[.agg #[.int .i64 x0, .int .i64 x1], .agg #[.int .i64 x2, .int .i64 x3], .agg #[.int .i64 y2, .int .i64 y3]] w fun e w' => e = .returned (.bool false) ∧ Below w.heap.size w w')
    (hO3 : ∀ w, Calls Try.prog 30 #[.agg #[.int .i64 y0, .int .i64 y1], .agg #[.int .i64 y2, .int .i64 y3], .agg #[.int .i64 x0, .int .i64 x1]] w fun e w' => e = .returned (.bool false) ∧ Below w.heap.size w w')
    (hO4 : ∀ w, Calls Try.prog 30 #[.agg #[.int .i64 y0, .int .i64 y1], .agg #[.int .i64 y2, .int .i64 y3], .agg #[.int .i64 x2, .int .i64 x3]] w fun e w' => e = .returned (.bool false) ∧ Below w.heap.size w w')
    (hm : ∀ w, Calls Try.prog 78 #[.agg #[.int .i64 x0, .int .i64 x1], .agg #[.int .i64 x2, .int .i64 x3], .agg #[.int .i64 y0, .int .i64 y1]] w fun e w' => e = .returned (.int .i64 m) ∧ Below w.heap.size w w')
    (hn : ∀ w, Calls Try.prog 78 #[.agg #[.int .i64 x0, .int .i64 x1], .agg #[.int .i64 x2, .int .i64 x3], .agg #[.int .i64 y2, .int .i64 y3]] w fun e w' => e = .returned (.int .i64 n) ∧ Below w.heap.size w w')
    (hp : ∀ w, Calls Try.prog 78 #[.agg #[.int .i64 y0, .int .i64 y1], .agg #[.int .i64 y2, .int .i64 y3], .agg #[.int .i64 x0, .int .i64 x1]] w fun e w' => e = .returned (.int .i64 p) ∧ Below w.heap.size w w')
    (hq : ∀ w, Calls Try.prog 78 #[.agg #[.int .i64 y0, .int .i64 y1], .agg #[.int .i64 y2, .int .i64 y3], .agg #[.int .i64 x2, .int .i64 x3]] w fun e w' => e = .returned (.int .i64 q) ∧ Below w.heap.size w w') :
    Calls Try.prog 31 #[.agg #[.int .i64 x0, .int .i64 x1], .agg #[.int .i64 x2, .int .i64 x3], .agg #[.int .i64 y0, .int .i64 y1], .agg #[.int .i64 y2, .int .i64 y3]] w fun e w' => e = .returned (.bool (decide (sg m * sg n < 0) && decide (sg p * sg q < 0))) ∧ Below w.heap.size w w' := by
  have L0 : MeS w.heap.size x0 x1 x2 x3 y0 y1 y2 y3 (meW w x0 x1 x2 x3 y0 y1 y2 y3) := ⟨(((Own.new' _ _ (by simp) rfl).alloc _).alloc _).alloc _, ((Own.new' _ _ (by simp) rfl).alloc _).alloc _, (Own.new' _ _ (by simp) rfl).alloc _, Own.new' _ _ (by simp) rfl⟩
  have hB0 : Below w.heap.size w (meW w x0 x1 x2 x3 y0 y1 y2 y3) := by (repeat' (first | (with_reducible exact Below.refl _ _) | (with_reducible assumption) | (with_reducible refine Below.drew ?_) | (with_reducible refine below_drewN ?_ _) | (with_reducible refine Below.setCell ?_ ?_ _) | (with_reducible refine Below.alloc ?_ ?_ _) | (refine Below.trans ?_ (Below.mono (by with_reducible assumption) ?_)) | omega | (exact Below.size (by with_reducible assumption)) | (simp; done) | (simp; omega)))
  have s1 := sg_bd m
  have s2 := sg_bd n
  have s3 := sg_bd p
  have s4 := sg_bd q
  have G1 := Lib.hid (fun w => rsignW m w)
  have G2 := Lib.hid (fun w => rsignW n w)
  have G3 := Lib.hid (fun w => rsignW p w)
  have G4 := Lib.hid (fun w => rsignW q w)
  have hmn := Pl.mul_bd (a := sg m) (b := sg n) (A := 1) (B := 1) (by omega) (by omega)
  have hpq := Pl.mul_bd (a := sg p) (b := sg q) (A := 1) (B := 1) (by omega) (by omega)
  generalize sg m = m' at *
  generalize sg n = n' at *
  generalize sg p = p' at *
  generalize sg q = q' at *
  have hw1 : IntKind.i64.wrap (m' * n') = m' * n' := IntWalk.i64_in _ (by omega)
  have hw2 : IntKind.i64.wrap (p' * q') = p' * q' := IntWalk.i64_in _ (by omega)
  have O1 := Lib.hid hO1
  have O2 := Lib.hid hO2
  have O3 := Lib.hid hO3
  have O4 := Lib.hid hO4
  have HM := Lib.hid hm
  have HN := Lib.hid hn
  have HP := Lib.hid hp
  have HQ := Lib.hid hq
  clear hO1 hO2 hO3 hO4 hm hn hp hq hmn hpq s1 s2 s3 s4
  go_enter Try.func31, Try.ntmps31
  go_wp2_with fail
  refine (O1.out _).mono ?_
  rintro e w1 ⟨rfl, hb1⟩
  have L1 := L0.below hb1
  have hB1 := hB0.trans (hb1.mono hB0.size)
  clear L0 hb1 hB0
  have K1 := Lib.hid L1
  obtain ⟨⟨la, ca, fa⟩, ⟨lb, cb, fb⟩, ⟨lc, cc, fc⟩, ⟨ld, cd, fd⟩⟩ := L1
  go_wp2_with fail
  refine (O2.out _).mono ?_
  rintro e w2 ⟨rfl, hb2⟩
  have L2 := K1.out.below hb2
  have hB2 := hB1.trans (hb2.mono hB1.size)
  clear K1 hb2 hB1 la ca fa lb cb fb lc cc fc ld cd fd
  have K2 := Lib.hid L2
  obtain ⟨⟨la, ca, fa⟩, ⟨lb, cb, fb⟩, ⟨lc, cc, fc⟩, ⟨ld, cd, fd⟩⟩ := L2
  go_wp2_with fail
  refine (O3.out _).mono ?_
  rintro e w3 ⟨rfl, hb3⟩
  have L3 := K2.out.below hb3
  have hB3 := hB2.trans (hb3.mono hB2.size)
  clear K2 hb3 hB2 la ca fa lb cb fb lc cc fc ld cd fd
  have K3 := Lib.hid L3
  obtain ⟨⟨la, ca, fa⟩, ⟨lb, cb, fb⟩, ⟨lc, cc, fc⟩, ⟨ld, cd, fd⟩⟩ := L3
  go_wp2_with fail
  refine (O4.out _).mono ?_
  rintro e w4 ⟨rfl, hb4⟩
  have L4 := K3.out.below hb4
  have hB4 := hB3.trans (hb4.mono hB3.size)
  clear K3 hb4 hB3 la ca fa lb cb fb lc cc fc ld cd fd
  have hx0 := Aft.cell L4.a
  have hx1 := Aft.cell L4.b
  have hx2 := Aft.cell L4.c
  have hx3 := Aft.cell L4.d
  clear L4 O1 O2 O3 O4
  by_cases hs : m' * n' < 0
  · go_wp2
    refine wp_region_aft (by kernel_rfl) (by kernel_rfl) ?_; (repeat (go_big_quiet_step ((first | (go_at_call 78; with_reducible exact aft_of (HM.out _)) | (go_at_call 78; with_reducible exact aft_of (HN.out _)) | (go_at_call 78; with_reducible exact aft_of (HP.out _)) | (go_at_call 78; with_reducible exact aft_of (HQ.out _)) | (go_at_call 79; with_reducible exact aft_same (G1.out _)) | (go_at_call 79; with_reducible exact aft_same (G2.out _)) | (go_at_call 79; with_reducible exact aft_same (G3.out _)) | (go_at_call 79; with_reducible exact aft_same (G4.out _)))))); refine wpQuiet_nil ?_; rintro w5 ⟨⟨_, hb5⟩, rfl⟩
    clear hx0 hx1 hx2 hx3
    go_wp2
    all_goals go_ret
    all_goals exact ⟨ret_bool (by (first | rfl | (rw [Bool.eq_iff_iff]; simp; done) | (rw [Bool.eq_iff_iff]; simp; omega))), hB4.trans (hb5.mono hB4.size)⟩
  · have hs' : decide (m' * n' < 0) = false := decide_eq_false hs
    go_wp2
    refine wp_region_aft (by kernel_rfl) (by kernel_rfl) ?_; (repeat (first | go_big_quiet_step ((first | (go_at_call 78; with_reducible exact aft_of (HM.out _)) | (go_at_call 78; with_reducible exact aft_of (HN.out _)) | (go_at_call 78; with_reducible exact aft_of (HP.out _)) | (go_at_call 78; with_reducible exact aft_of (HQ.out _)) | (go_at_call 79; with_reducible exact aft_same (G1.out _)) | (go_at_call 79; with_reducible exact aft_same (G2.out _)) | (go_at_call 79; with_reducible exact aft_same (G3.out _)) | (go_at_call 79; with_reducible exact aft_same (G4.out _)))) | simp only [hs'])); refine wpQuiet_nil ?_; rintro w5 ⟨⟨_, hb5⟩, rfl⟩
    clear hx0 hx1 hx2 hx3
    go_wp2
    all_goals go_ret
    all_goals exact ⟨ret_bool (by (first | rfl | (rw [Bool.eq_iff_iff]; simp; done) | (rw [Bool.eq_iff_iff]; simp; omega))), hB4.trans (hb5.mono hB4.size)⟩
-- TAIL (mk_rmeet.py)
set_option maxHeartbeats 2000000 in
theorem rmeetE1 (x0 x1 x2 x3 y0 y1 y2 y3 : Int) (w : World)
    (hO1 : ∀ w, Calls Try.prog 30 #[.agg #[.int .i64 x0, .int .i64 x1], .agg #[.int .i64 x2, .int .i64 x3], .agg #[.int .i64 y0, .int .i64 y1]] w fun e w' => e = .returned (.bool true) ∧ Below w.heap.size w w') :
    Calls Try.prog 31 #[.agg #[.int .i64 x0, .int .i64 x1], .agg #[.int .i64 x2, .int .i64 x3], .agg #[.int .i64 y0, .int .i64 y1], .agg #[.int .i64 y2, .int .i64 y3]] w fun e w' => e = .returned (.bool true) ∧ Below w.heap.size w w' := by
  have L0 : MeS w.heap.size x0 x1 x2 x3 y0 y1 y2 y3 (meW w x0 x1 x2 x3 y0 y1 y2 y3) := ⟨(((Own.new' _ _ (by simp) rfl).alloc _).alloc _).alloc _, ((Own.new' _ _ (by simp) rfl).alloc _).alloc _, (Own.new' _ _ (by simp) rfl).alloc _, Own.new' _ _ (by simp) rfl⟩
  have hB0 : Below w.heap.size w (meW w x0 x1 x2 x3 y0 y1 y2 y3) := by (repeat' (first | (with_reducible exact Below.refl _ _) | (with_reducible assumption) | (with_reducible refine Below.drew ?_) | (with_reducible refine below_drewN ?_ _) | (with_reducible refine Below.setCell ?_ ?_ _) | (with_reducible refine Below.alloc ?_ ?_ _) | (refine Below.trans ?_ (Below.mono (by with_reducible assumption) ?_)) | omega | (exact Below.size (by with_reducible assumption)) | (simp; done) | (simp; omega)))
  have O1 := Lib.hid hO1
  clear hO1
  go_enter Try.func31, Try.ntmps31
  go_wp2_with fail
  refine (O1.out _).mono ?_
  rintro e w1 ⟨rfl, hb1⟩
  have L1 := L0.below hb1
  have hB1 := hB0.trans (hb1.mono hB0.size)
  clear L0 hb1 hB0
  go_wp2
  go_ret
  exact ⟨rfl, hB1⟩
set_option maxHeartbeats 2000000 in
theorem rmeetE2 (x0 x1 x2 x3 y0 y1 y2 y3 : Int) (w : World)
    (hO1 : ∀ w, Calls Try.prog 30 #[.agg #[.int .i64 x0, .int .i64 x1], .agg #[.int .i64 x2, .int .i64 x3], .agg #[.int .i64 y0, .int .i64 y1]] w fun e w' => e = .returned (.bool false) ∧ Below w.heap.size w w')
    (hO2 : ∀ w, Calls Try.prog 30 #[.agg #[.int .i64 x0, .int .i64 x1], .agg #[.int .i64 x2, .int .i64 x3], .agg #[.int .i64 y2, .int .i64 y3]] w fun e w' => e = .returned (.bool true) ∧ Below w.heap.size w w') :
    Calls Try.prog 31 #[.agg #[.int .i64 x0, .int .i64 x1], .agg #[.int .i64 x2, .int .i64 x3], .agg #[.int .i64 y0, .int .i64 y1], .agg #[.int .i64 y2, .int .i64 y3]] w fun e w' => e = .returned (.bool true) ∧ Below w.heap.size w w' := by
  have L0 : MeS w.heap.size x0 x1 x2 x3 y0 y1 y2 y3 (meW w x0 x1 x2 x3 y0 y1 y2 y3) := ⟨(((Own.new' _ _ (by simp) rfl).alloc _).alloc _).alloc _, ((Own.new' _ _ (by simp) rfl).alloc _).alloc _, (Own.new' _ _ (by simp) rfl).alloc _, Own.new' _ _ (by simp) rfl⟩
  have hB0 : Below w.heap.size w (meW w x0 x1 x2 x3 y0 y1 y2 y3) := by (repeat' (first | (with_reducible exact Below.refl _ _) | (with_reducible assumption) | (with_reducible refine Below.drew ?_) | (with_reducible refine below_drewN ?_ _) | (with_reducible refine Below.setCell ?_ ?_ _) | (with_reducible refine Below.alloc ?_ ?_ _) | (refine Below.trans ?_ (Below.mono (by with_reducible assumption) ?_)) | omega | (exact Below.size (by with_reducible assumption)) | (simp; done) | (simp; omega)))
  have O1 := Lib.hid hO1
  have O2 := Lib.hid hO2
  clear hO1 hO2
  go_enter Try.func31, Try.ntmps31
  go_wp2_with fail
  refine (O1.out _).mono ?_
  rintro e w1 ⟨rfl, hb1⟩
  have L1 := L0.below hb1
  have hB1 := hB0.trans (hb1.mono hB0.size)
  clear L0 hb1 hB0
  have K1 := Lib.hid L1
  obtain ⟨⟨la, ca, fa⟩, ⟨lb, cb, fb⟩, ⟨lc, cc, fc⟩, ⟨ld, cd, fd⟩⟩ := L1
  go_wp2_with fail
  refine (O2.out _).mono ?_
  rintro e w2 ⟨rfl, hb2⟩
  have L2 := K1.out.below hb2
  have hB2 := hB1.trans (hb2.mono hB1.size)
  clear K1 hb2 hB1 la ca fa lb cb fb lc cc fc ld cd fd
  go_wp2
  go_ret
  exact ⟨rfl, hB2⟩
set_option maxHeartbeats 2000000 in
theorem rmeetE3 (x0 x1 x2 x3 y0 y1 y2 y3 : Int) (w : World)
    (hO1 : ∀ w, Calls Try.prog 30 #[.agg #[.int .i64 x0, .int .i64 x1], .agg #[.int .i64 x2, .int .i64 x3], .agg #[.int .i64 y0, .int .i64 y1]] w fun e w' => e = .returned (.bool false) ∧ Below w.heap.size w w')
    (hO2 : ∀ w, Calls Try.prog 30 #[.agg #[.int .i64 x0, .int .i64 x1], .agg #[.int .i64 x2, .int .i64 x3], .agg #[.int .i64 y2, .int .i64 y3]] w fun e w' => e = .returned (.bool false) ∧ Below w.heap.size w w')
    (hO3 : ∀ w, Calls Try.prog 30 #[.agg #[.int .i64 y0, .int .i64 y1], .agg #[.int .i64 y2, .int .i64 y3], .agg #[.int .i64 x0, .int .i64 x1]] w fun e w' => e = .returned (.bool true) ∧ Below w.heap.size w w') :
    Calls Try.prog 31 #[.agg #[.int .i64 x0, .int .i64 x1], .agg #[.int .i64 x2, .int .i64 x3], .agg #[.int .i64 y0, .int .i64 y1], .agg #[.int .i64 y2, .int .i64 y3]] w fun e w' => e = .returned (.bool true) ∧ Below w.heap.size w w' := by
  have L0 : MeS w.heap.size x0 x1 x2 x3 y0 y1 y2 y3 (meW w x0 x1 x2 x3 y0 y1 y2 y3) := ⟨(((Own.new' _ _ (by simp) rfl).alloc _).alloc _).alloc _, ((Own.new' _ _ (by simp) rfl).alloc _).alloc _, (Own.new' _ _ (by simp) rfl).alloc _, Own.new' _ _ (by simp) rfl⟩
  have hB0 : Below w.heap.size w (meW w x0 x1 x2 x3 y0 y1 y2 y3) := by (repeat' (first | (with_reducible exact Below.refl _ _) | (with_reducible assumption) | (with_reducible refine Below.drew ?_) | (with_reducible refine below_drewN ?_ _) | (with_reducible refine Below.setCell ?_ ?_ _) | (with_reducible refine Below.alloc ?_ ?_ _) | (refine Below.trans ?_ (Below.mono (by with_reducible assumption) ?_)) | omega | (exact Below.size (by with_reducible assumption)) | (simp; done) | (simp; omega)))
  have O1 := Lib.hid hO1
  have O2 := Lib.hid hO2
  have O3 := Lib.hid hO3
  clear hO1 hO2 hO3
  go_enter Try.func31, Try.ntmps31
  go_wp2_with fail
  refine (O1.out _).mono ?_
  rintro e w1 ⟨rfl, hb1⟩
  have L1 := L0.below hb1
  have hB1 := hB0.trans (hb1.mono hB0.size)
  clear L0 hb1 hB0
  have K1 := Lib.hid L1
  obtain ⟨⟨la, ca, fa⟩, ⟨lb, cb, fb⟩, ⟨lc, cc, fc⟩, ⟨ld, cd, fd⟩⟩ := L1
  go_wp2_with fail
  refine (O2.out _).mono ?_
  rintro e w2 ⟨rfl, hb2⟩
  have L2 := K1.out.below hb2
  have hB2 := hB1.trans (hb2.mono hB1.size)
  clear K1 hb2 hB1 la ca fa lb cb fb lc cc fc ld cd fd
  have K2 := Lib.hid L2
  obtain ⟨⟨la, ca, fa⟩, ⟨lb, cb, fb⟩, ⟨lc, cc, fc⟩, ⟨ld, cd, fd⟩⟩ := L2
  go_wp2_with fail
  refine (O3.out _).mono ?_
  rintro e w3 ⟨rfl, hb3⟩
  have L3 := K2.out.below hb3
  have hB3 := hB2.trans (hb3.mono hB2.size)
  clear K2 hb3 hB2 la ca fa lb cb fb lc cc fc ld cd fd
  go_wp2
  go_ret
  exact ⟨rfl, hB3⟩
set_option maxHeartbeats 2000000 in
theorem rmeetE4 (x0 x1 x2 x3 y0 y1 y2 y3 : Int) (w : World)
    (hO1 : ∀ w, Calls Try.prog 30 #[.agg #[.int .i64 x0, .int .i64 x1], .agg #[.int .i64 x2, .int .i64 x3], .agg #[.int .i64 y0, .int .i64 y1]] w fun e w' => e = .returned (.bool false) ∧ Below w.heap.size w w')
    (hO2 : ∀ w, Calls Try.prog 30 #[.agg #[.int .i64 x0, .int .i64 x1], .agg #[.int .i64 x2, .int .i64 x3], .agg #[.int .i64 y2, .int .i64 y3]] w fun e w' => e = .returned (.bool false) ∧ Below w.heap.size w w')
    (hO3 : ∀ w, Calls Try.prog 30 #[.agg #[.int .i64 y0, .int .i64 y1], .agg #[.int .i64 y2, .int .i64 y3], .agg #[.int .i64 x0, .int .i64 x1]] w fun e w' => e = .returned (.bool false) ∧ Below w.heap.size w w')
    (hO4 : ∀ w, Calls Try.prog 30 #[.agg #[.int .i64 y0, .int .i64 y1], .agg #[.int .i64 y2, .int .i64 y3], .agg #[.int .i64 x2, .int .i64 x3]] w fun e w' => e = .returned (.bool true) ∧ Below w.heap.size w w') :
    Calls Try.prog 31 #[.agg #[.int .i64 x0, .int .i64 x1], .agg #[.int .i64 x2, .int .i64 x3], .agg #[.int .i64 y0, .int .i64 y1], .agg #[.int .i64 y2, .int .i64 y3]] w fun e w' => e = .returned (.bool true) ∧ Below w.heap.size w w' := by
  have L0 : MeS w.heap.size x0 x1 x2 x3 y0 y1 y2 y3 (meW w x0 x1 x2 x3 y0 y1 y2 y3) := ⟨(((Own.new' _ _ (by simp) rfl).alloc _).alloc _).alloc _, ((Own.new' _ _ (by simp) rfl).alloc _).alloc _, (Own.new' _ _ (by simp) rfl).alloc _, Own.new' _ _ (by simp) rfl⟩
  have hB0 : Below w.heap.size w (meW w x0 x1 x2 x3 y0 y1 y2 y3) := by (repeat' (first | (with_reducible exact Below.refl _ _) | (with_reducible assumption) | (with_reducible refine Below.drew ?_) | (with_reducible refine below_drewN ?_ _) | (with_reducible refine Below.setCell ?_ ?_ _) | (with_reducible refine Below.alloc ?_ ?_ _) | (refine Below.trans ?_ (Below.mono (by with_reducible assumption) ?_)) | omega | (exact Below.size (by with_reducible assumption)) | (simp; done) | (simp; omega)))
  have O1 := Lib.hid hO1
  have O2 := Lib.hid hO2
  have O3 := Lib.hid hO3
  have O4 := Lib.hid hO4
  clear hO1 hO2 hO3 hO4
  go_enter Try.func31, Try.ntmps31
  go_wp2_with fail
  refine (O1.out _).mono ?_
  rintro e w1 ⟨rfl, hb1⟩
  have L1 := L0.below hb1
  have hB1 := hB0.trans (hb1.mono hB0.size)
  clear L0 hb1 hB0
  have K1 := Lib.hid L1
  obtain ⟨⟨la, ca, fa⟩, ⟨lb, cb, fb⟩, ⟨lc, cc, fc⟩, ⟨ld, cd, fd⟩⟩ := L1
  go_wp2_with fail
  refine (O2.out _).mono ?_
  rintro e w2 ⟨rfl, hb2⟩
  have L2 := K1.out.below hb2
  have hB2 := hB1.trans (hb2.mono hB1.size)
  clear K1 hb2 hB1 la ca fa lb cb fb lc cc fc ld cd fd
  have K2 := Lib.hid L2
  obtain ⟨⟨la, ca, fa⟩, ⟨lb, cb, fb⟩, ⟨lc, cc, fc⟩, ⟨ld, cd, fd⟩⟩ := L2
  go_wp2_with fail
  refine (O3.out _).mono ?_
  rintro e w3 ⟨rfl, hb3⟩
  have L3 := K2.out.below hb3
  have hB3 := hB2.trans (hb3.mono hB2.size)
  clear K2 hb3 hB2 la ca fa lb cb fb lc cc fc ld cd fd
  have K3 := Lib.hid L3
  obtain ⟨⟨la, ca, fa⟩, ⟨lb, cb, fb⟩, ⟨lc, cc, fc⟩, ⟨ld, cd, fd⟩⟩ := L3
  go_wp2_with fail
  refine (O4.out _).mono ?_
  rintro e w4 ⟨rfl, hb4⟩
  have L4 := K3.out.below hb4
  have hB4 := hB3.trans (hb4.mono hB3.size)
  clear K3 hb4 hB3 la ca fa lb cb fb lc cc fc ld cd fd
  go_wp2
  go_ret
  exact ⟨rfl, hB4⟩
theorem rmeetW (x0 x1 x2 x3 y0 y1 y2 y3 : Int) (w : World) (ha : Pl.isP (x0, x1) = true) (hb : Pl.isP (x2, x3) = true) (hc : Pl.isP (y0, y1) = true) (hd : Pl.isP (y2, y3) = true) :
    Calls Try.prog 31 #[.agg #[.int .i64 x0, .int .i64 x1], .agg #[.int .i64 x2, .int .i64 x3], .agg #[.int .i64 y0, .int .i64 y1], .agg #[.int .i64 y2, .int .i64 y3]] w fun e w' => e = .returned (.bool (Pl.meets (x0, x1) (x2, x3) (y0, y1) (y2, y3))) ∧ Below w.heap.size w w' := by
  have h1 := fun w => rOnW x0 x1 x2 x3 y0 y1 w ha hb hc
  have h2 := fun w => rOnW x0 x1 x2 x3 y2 y3 w ha hb hd
  have h3 := fun w => rOnW y0 y1 y2 y3 x0 x1 w hc hd ha
  have h4 := fun w => rOnW y0 y1 y2 y3 x2 x3 w hc hd hb
  unfold Pl.meets
  cases e1 : Pl.has (x0, x1) (x2, x3) (y0, y1) <;> rw [e1] at h1
  · cases e2 : Pl.has (x0, x1) (x2, x3) (y2, y3) <;> rw [e2] at h2
    · cases e3 : Pl.has (y0, y1) (y2, y3) (x0, x1) <;> rw [e3] at h3
      · cases e4 : Pl.has (y0, y1) (y2, y3) (x2, x3) <;> rw [e4] at h4
        · simp only [Bool.false_or]
          rw [apart_sg, apart_sg]
          exact rmeetT x0 x1 x2 x3 y0 y1 y2 y3 _ _ _ _ w h1 h2 h3 h4 (fun w => rturnW _ _ _ _ _ _ w ha hb hc) (fun w => rturnW _ _ _ _ _ _ w ha hb hd) (fun w => rturnW _ _ _ _ _ _ w hc hd ha) (fun w => rturnW _ _ _ _ _ _ w hc hd hb)
        · exact rmeetE4 x0 x1 x2 x3 y0 y1 y2 y3 w h1 h2 h3 h4
      · exact rmeetE3 x0 x1 x2 x3 y0 y1 y2 y3 w h1 h2 h3
    · exact rmeetE2 x0 x1 x2 x3 y0 y1 y2 y3 w h1 h2
  · exact rmeetE1 x0 x1 x2 x3 y0 y1 y2 y3 w h1
end Go.Proofs.Ytgmhelclofnpkaa
