/- Walks: open, openings, Openings, Fewest of the program. -/
import Derived.Test.YtibkgnnpmidgfaaDoorCm
import Derived.Test.YtibkgnnpmidgfaaDoorCl
namespace Go.Proofs.YtibkgnnpmidgfaaDoor
open Go.RowKit Go.Maps

/-- The least number of wrong reports. -/
def fewV (B D : List Pt) (R : List Rep) : Nat := fewS B D R [] D.length
def opE (cw : Int) (B D : List Pt) (R : List Rep) (v : Bool) : Int := if askE cw B D R v = 0 then (if cw < fewV B D R then 3 else 0) else askE cw B D R v

set_option maxRecDepth 100000 in
set_option maxHeartbeats 4000000 in
theorem open70_bad (A0 A1 A2 : Option Addr) (n0 n1 n2 c0 c1 c2 : Nat) (cw : Int) (v : Bool) (B D : List Pt) (R : List Rep) (w : World) (hC : RdC w A0 A1 A2 n0 n1 n2 B D R) (hE : opE cw B D R v ≠ 0) :
    Calls Tryd.prog 70 #[.agg #[.slice A0 n0 c0, .slice A1 n1 c1, .slice A2 n2 c2, .int .i64 cw], .bool v] w fun e w' => e = .returned (.tuple #[.pointer none, .int .i64 (opE cw B D R v)]) ∧ Below w.heap.size w w' := by
  have HC := Lib.hid hC
  have HL1 := Lib.hid hC.h1
  clear hC
  have o0 : Own (w.alloc (.cells #[.slice A0 n0 c0, .slice A1 n1 c1, .slice A2 n2 c2, .int .i64 cw] 26)) w.heap.size [.slice A0 n0 c0, .slice A1 n1 c1, .slice A2 n2 c2, .int .i64 cw] := Own.new' _ _ rfl rfl
  have oB : Below w.heap.size w (w.alloc (.cells #[.slice A0 n0 c0, .slice A1 n1 c1, .slice A2 n2 c2, .int .i64 cw] 26)) := by (repeat' (first | (with_reducible exact Below.refl _ _) | (with_reducible assumption) | (with_reducible refine Below.drew ?_) | (with_reducible refine below_drewN ?_ _) | (with_reducible refine Below.setCell ?_ ?_ _) | (with_reducible refine Below.alloc ?_ ?_ _) | (refine Below.trans ?_ (Below.mono (by with_reducible assumption) ?_)) | omega | (exact Below.size (by with_reducible assumption)) | (simp; done) | (simp; omega)))
  by_cases hA : askE cw B D R v = 0
  · obtain ⟨rfl, hchk⟩ := ask_zero hA
    have hV := Lib.hid (val_of hchk)
    have hn1 : n1 ≤ 4 := by have := hV.out.d; have := HL1.out; omega
    have hf : cw < fewV B D R := by
      unfold opE at hE
      rw [if_pos hA] at hE
      false_or_by_contra
      rename_i h
      rw [if_neg h] at hE
      exact hE rfl
    have hEe : Hid (opE cw B D R true = 3) := by show _ = _; unfold opE; rw [if_pos hA, if_pos hf]
    have HA := Lib.hid hA
    have hfv : Hid (fewV B D R = fewS B D R [] n1) := by show _ = _; unfold fewV; rw [HL1.out]
    rw [hfv.out] at hf
    have hfl := fewS_le B D R [] n1
    clear hE hA hchk
    go_enter Tryd.func70, Tryd.ntmps70
    go_wp2_with fail
    refine (ask61 A0 A1 A2 n0 n1 n2 c0 c1 c2 cw true B D R _ (HC.out.below oB (Nat.le_refl _))).mono ?_
    rw [HA.out]
    rintro e w1 ⟨rfl, hb1⟩
    (have hz1 := hb1.size; (try simp at hz1); have hc1_0 := fun o => (bcell hb1).1 (w.heap.size) o (by first | omega | (simp; done) | (simp; omega)); have hf1_0 := fun o => (bcell hb1).2 (w.heap.size) o (by first | omega | (simp; done) | (simp; omega)); have : w.heap.size < w1.heap.size := (by first | omega | (simp; done) | (simp; omega)); have : w.heap.size < w1.heap.size + 1 := (by first | omega | (simp; done) | (simp; omega)); have : w.heap.size < w1.heap.size + 2 := (by first | omega | (simp; done) | (simp; omega)); have : w.heap.size < w1.heap.size + 3 := (by first | omega | (simp; done) | (simp; omega)))
    have hB1 : Below w.heap.size w w1 := by (repeat' (first | (with_reducible exact Below.refl _ _) | (with_reducible assumption) | (with_reducible refine Below.drew ?_) | (with_reducible refine below_drewN ?_ _) | (with_reducible refine Below.setCell ?_ ?_ _) | (with_reducible refine Below.alloc ?_ ?_ _) | (refine Below.trans ?_ (Below.mono (by with_reducible assumption) ?_)) | omega | (exact Below.size (by with_reducible assumption)) | (simp; done) | (simp; omega)))
    have q0 := o0.below hb1 o0.lt
    clear hb1
    go_wp2_with fail
    refine (draw75 A0 A1 A2 n0 n1 n2 c0 c1 c2 cw B D R _ (HC.out.below hB1 (Nat.le_refl _)) hV).mono ?_
    rintro e w2 ⟨cb, hcb, rfl, hch, hb2⟩
    have q2 := q0.below hb2 q0.lt
    have hB2 : Below w.heap.size w w2 := by (repeat' (first | (with_reducible exact Below.refl _ _) | (with_reducible assumption) | (with_reducible refine Below.drew ?_) | (with_reducible refine below_drewN ?_ _) | (with_reducible refine Below.setCell ?_ ?_ _) | (with_reducible refine Below.alloc ?_ ?_ _) | (refine Below.trans ?_ (Below.mono (by with_reducible assumption) ?_)) | omega | (exact Below.size (by with_reducible assumption)) | (simp; done) | (simp; omega)))
    have hx0 := Aft.cell q2
    have hcall : ∀ x : Aft w2, Calls Tryd.prog 76 #[.pointer (some ⟨cb, 0, none⟩), .slice none 0 0] x.w (fun e w' => e = .returned (.int .i64 (fewS B D R [] n1 : Nat)) ∧ Below x.w.heap.size x.w w') := fun x =>
      fewest76 cb A0 A1 A2 n0 n1 n2 c0 c1 c2 cw B D R none [] 0 0 x.w (hch.below x.h (Nat.le_refl _)) (RdI.nil _ _) rfl (by omega) hn1
    have hdec : decide (cw < ((fewS B D R [] n1 : Nat) : Int)) = true := by simpa using hf
    clear q0 hch hB1 hb2 o0 oB
    go_wp2
    refine wp_region_aft (by kernel_rfl) (by kernel_rfl) ?_; (repeat (go_big_quiet_step ((go_at_call 76; exact aft_of (hcall _))))); refine wpQuiet_nil ?_; rintro w5 ⟨⟨_, hb5⟩, rfl⟩
    go_wp2
    go_ret2
    exact ⟨by rw [hEe.out]; rfl, by (repeat' (first | (with_reducible exact Below.refl _ _) | (with_reducible assumption) | (with_reducible refine Below.drew ?_) | (with_reducible refine below_drewN ?_ _) | (with_reducible refine Below.setCell ?_ ?_ _) | (with_reducible refine Below.alloc ?_ ?_ _) | (refine Below.trans ?_ (Below.mono (by with_reducible assumption) ?_)) | omega | (exact Below.size (by with_reducible assumption)) | (simp; done) | (simp; omega)))⟩
  · have hEe : Hid (opE cw B D R v = askE cw B D R v) := by show _ = _; unfold opE; rw [if_neg hA]
    obtain ⟨E, hEE⟩ : ∃ E, E = askE cw B D R v := ⟨_, rfl⟩
    rw [← hEE] at hA hEe
    have hne : (E != 0) = true := by simpa using hA
    have HE : Hid (askE cw B D R v = E) := hEE.symm
    clear hA hE hEE
    go_enter Tryd.func70, Tryd.ntmps70
    go_wp2_with fail
    refine (ask61 A0 A1 A2 n0 n1 n2 c0 c1 c2 cw v B D R _ (HC.out.below oB (Nat.le_refl _))).mono ?_
    rw [HE.out]
    rintro e w1 ⟨rfl, hb1⟩
    (have hz1 := hb1.size; (try simp at hz1); have hc1_0 := fun o => (bcell hb1).1 (w.heap.size) o (by first | omega | (simp; done) | (simp; omega)); have hf1_0 := fun o => (bcell hb1).2 (w.heap.size) o (by first | omega | (simp; done) | (simp; omega)); have : w.heap.size < w1.heap.size := (by first | omega | (simp; done) | (simp; omega)); have : w.heap.size < w1.heap.size + 1 := (by first | omega | (simp; done) | (simp; omega)); have : w.heap.size < w1.heap.size + 2 := (by first | omega | (simp; done) | (simp; omega)); have : w.heap.size < w1.heap.size + 3 := (by first | omega | (simp; done) | (simp; omega)))
    go_wp2
    go_ret2
    exact ⟨by rw [hEe.out]; rfl, by (repeat' (first | (with_reducible exact Below.refl _ _) | (with_reducible assumption) | (with_reducible refine Below.drew ?_) | (with_reducible refine below_drewN ?_ _) | (with_reducible refine Below.setCell ?_ ?_ _) | (with_reducible refine Below.alloc ?_ ?_ _) | (refine Below.trans ?_ (Below.mono (by with_reducible assumption) ?_)) | omega | (exact Below.size (by with_reducible assumption)) | (simp; done) | (simp; omega)))⟩

set_option maxRecDepth 100000 in
set_option maxHeartbeats 4000000 in
theorem open70_ok (A0 A1 A2 : Option Addr) (n0 n1 n2 c0 c1 c2 : Nat) (cw : Int) (v : Bool) (B D : List Pt) (R : List Rep) (w : World) (hC : RdC w A0 A1 A2 n0 n1 n2 B D R) (hE : opE cw B D R v = 0) :
    Calls Tryd.prog 70 #[.agg #[.slice A0 n0 c0, .slice A1 n1 c1, .slice A2 n2 c2, .int .i64 cw], .bool v] w fun e w' => ∃ cb, w.heap.size ≤ cb ∧ e = .returned (.tuple #[.pointer (some ⟨cb, 0, none⟩), .int .i64 0]) ∧ Chart w' cb A0 A1 A2 n0 n1 n2 c0 c1 c2 cw B D R ∧ Below w.heap.size w w' := by
  have HC := Lib.hid hC
  have HL1 := Lib.hid hC.h1
  clear hC
  have o0 : Own (w.alloc (.cells #[.slice A0 n0 c0, .slice A1 n1 c1, .slice A2 n2 c2, .int .i64 cw] 26)) w.heap.size [.slice A0 n0 c0, .slice A1 n1 c1, .slice A2 n2 c2, .int .i64 cw] := Own.new' _ _ rfl rfl
  have oB : Below w.heap.size w (w.alloc (.cells #[.slice A0 n0 c0, .slice A1 n1 c1, .slice A2 n2 c2, .int .i64 cw] 26)) := by (repeat' (first | (with_reducible exact Below.refl _ _) | (with_reducible assumption) | (with_reducible refine Below.drew ?_) | (with_reducible refine below_drewN ?_ _) | (with_reducible refine Below.setCell ?_ ?_ _) | (with_reducible refine Below.alloc ?_ ?_ _) | (refine Below.trans ?_ (Below.mono (by with_reducible assumption) ?_)) | omega | (exact Below.size (by with_reducible assumption)) | (simp; done) | (simp; omega)))
  have hA : askE cw B D R v = 0 := by
    unfold opE at hE
    false_or_by_contra
    rename_i h
    rw [if_neg h] at hE
    exact h hE
  obtain ⟨rfl, hchk⟩ := ask_zero hA
  have hV := Lib.hid (val_of hchk)
  have hn1 : n1 ≤ 4 := by have := hV.out.d; have := HL1.out; omega
  have hf : ¬ cw < fewV B D R := by
    intro h
    unfold opE at hE
    rw [if_pos hA, if_pos h] at hE
    cases hE
  have HA := Lib.hid hA
  have hfv : Hid (fewV B D R = fewS B D R [] n1) := by show _ = _; unfold fewV; rw [HL1.out]
  rw [hfv.out] at hf
  have hfl := fewS_le B D R [] n1
  clear hE hA hchk
  go_enter Tryd.func70, Tryd.ntmps70
  go_wp2_with fail
  refine (ask61 A0 A1 A2 n0 n1 n2 c0 c1 c2 cw true B D R _ (HC.out.below oB (Nat.le_refl _))).mono ?_
  rw [HA.out]
  rintro e w1 ⟨rfl, hb1⟩
  (have hz1 := hb1.size; (try simp at hz1); have hc1_0 := fun o => (bcell hb1).1 (w.heap.size) o (by first | omega | (simp; done) | (simp; omega)); have hf1_0 := fun o => (bcell hb1).2 (w.heap.size) o (by first | omega | (simp; done) | (simp; omega)); have : w.heap.size < w1.heap.size := (by first | omega | (simp; done) | (simp; omega)); have : w.heap.size < w1.heap.size + 1 := (by first | omega | (simp; done) | (simp; omega)); have : w.heap.size < w1.heap.size + 2 := (by first | omega | (simp; done) | (simp; omega)); have : w.heap.size < w1.heap.size + 3 := (by first | omega | (simp; done) | (simp; omega)))
  have hB1 : Below w.heap.size w w1 := by (repeat' (first | (with_reducible exact Below.refl _ _) | (with_reducible assumption) | (with_reducible refine Below.drew ?_) | (with_reducible refine below_drewN ?_ _) | (with_reducible refine Below.setCell ?_ ?_ _) | (with_reducible refine Below.alloc ?_ ?_ _) | (refine Below.trans ?_ (Below.mono (by with_reducible assumption) ?_)) | omega | (exact Below.size (by with_reducible assumption)) | (simp; done) | (simp; omega)))
  have q0 := o0.below hb1 o0.lt
  clear hb1
  go_wp2_with fail
  refine (draw75 A0 A1 A2 n0 n1 n2 c0 c1 c2 cw B D R _ (HC.out.below hB1 (Nat.le_refl _)) hV).mono ?_
  rintro e w2 ⟨cb, hcb, rfl, hch, hb2⟩
  have q2 := q0.below hb2 q0.lt
  have hB2 : Below w.heap.size w w2 := by (repeat' (first | (with_reducible exact Below.refl _ _) | (with_reducible assumption) | (with_reducible refine Below.drew ?_) | (with_reducible refine below_drewN ?_ _) | (with_reducible refine Below.setCell ?_ ?_ _) | (with_reducible refine Below.alloc ?_ ?_ _) | (refine Below.trans ?_ (Below.mono (by with_reducible assumption) ?_)) | omega | (exact Below.size (by with_reducible assumption)) | (simp; done) | (simp; omega)))
  have hx0 := Aft.cell q2
  have hcall : ∀ x : Aft w2, Calls Tryd.prog 76 #[.pointer (some ⟨cb, 0, none⟩), .slice none 0 0] x.w (fun e w' => e = .returned (.int .i64 (fewS B D R [] n1 : Nat)) ∧ Below x.w.heap.size x.w w') := fun x =>
    fewest76 cb A0 A1 A2 n0 n1 n2 c0 c1 c2 cw B D R none [] 0 0 x.w (hch.below x.h (Nat.le_refl _)) (RdI.nil _ _) rfl (by omega) hn1
  have hdec : decide (cw < ((fewS B D R [] n1 : Nat) : Int)) = false := by simpa using hf
  have hw1 : w.heap.size ≤ w1.heap.size := hB1.size
  clear q0 hB1 hb2 o0 oB hf
  have HCH := Lib.hid hch
  clear hch
  go_wp2
  refine wp_region_aft (by kernel_rfl) (by kernel_rfl) ?_; (repeat (go_big_quiet_step ((go_at_call 76; exact aft_of (hcall _))))); refine wpQuiet_nil ?_; rintro w5 ⟨⟨_, hb5⟩, rfl⟩
  go_wp2
  go_ret2
  exact ⟨cb, by omega, rfl, HCH.out.below hb5 (Nat.le_refl _), by (repeat' (first | (with_reducible exact Below.refl _ _) | (with_reducible assumption) | (with_reducible refine Below.drew ?_) | (with_reducible refine below_drewN ?_ _) | (with_reducible refine Below.setCell ?_ ?_ _) | (with_reducible refine Below.alloc ?_ ?_ _) | (refine Below.trans ?_ (Below.mono (by with_reducible assumption) ?_)) | omega | (exact Below.size (by with_reducible assumption)) | (simp; done) | (simp; omega)))⟩

def fewE (cw : Int) (B D : List Pt) (R : List Rep) : Int := chkE cw B D R
def fewN (cw : Int) (B D : List Pt) (R : List Rep) : Int := if chkE cw B D R = 0 then fewV B D R else 0
set_option maxRecDepth 100000 in
set_option maxHeartbeats 4000000 in
theorem fewest33 (A0 A1 A2 : Option Addr) (n0 n1 n2 c0 c1 c2 : Nat) (cw : Int) (B D : List Pt) (R : List Rep) (w : World) (hC : RdC w A0 A1 A2 n0 n1 n2 B D R) :
    Calls Tryd.prog 33 #[.agg #[.slice A0 n0 c0, .slice A1 n1 c1, .slice A2 n2 c2, .int .i64 cw]] w fun e w' => e = .returned (.tuple #[.int .i64 (fewN cw B D R), .int .i64 (fewE cw B D R)]) ∧ Below w.heap.size w w' := by
  have HC := Lib.hid hC
  have HL1 := Lib.hid hC.h1
  clear hC
  have o0 : Own (w.alloc (.cells #[.slice A0 n0 c0, .slice A1 n1 c1, .slice A2 n2 c2, .int .i64 cw] 26)) w.heap.size [.slice A0 n0 c0, .slice A1 n1 c1, .slice A2 n2 c2, .int .i64 cw] := Own.new' _ _ rfl rfl
  have oB : Below w.heap.size w (w.alloc (.cells #[.slice A0 n0 c0, .slice A1 n1 c1, .slice A2 n2 c2, .int .i64 cw] 26)) := by (repeat' (first | (with_reducible exact Below.refl _ _) | (with_reducible assumption) | (with_reducible refine Below.drew ?_) | (with_reducible refine below_drewN ?_ _) | (with_reducible refine Below.setCell ?_ ?_ _) | (with_reducible refine Below.alloc ?_ ?_ _) | (refine Below.trans ?_ (Below.mono (by with_reducible assumption) ?_)) | omega | (exact Below.size (by with_reducible assumption)) | (simp; done) | (simp; omega)))
  rcases chkE_cases cw B D R with h | h
  · have hchk := chk_ok h
    have hV := Lib.hid (val_of hchk)
    have hn1 : n1 ≤ 4 := by have := hV.out.d; have := HL1.out; omega
    have hNe : Hid (fewN cw B D R = (fewS B D R [] n1 : Nat)) := by show _ = _; unfold fewN fewV; rw [if_pos h, HL1.out]
    have hEe : Hid (fewE cw B D R = 0) := h
    have H := Lib.hid h
    clear h hchk
    go_enter Tryd.func33, Tryd.ntmps33
    go_wp2_with fail
    refine (check44 A0 A1 A2 n0 n1 n2 c0 c1 c2 cw B D R _ (HC.out.below oB (Nat.le_refl _))).mono ?_
    rw [H.out]
    rintro e w1 ⟨rfl, hb1⟩
    (have hz1 := hb1.size; (try simp at hz1); have hc1_0 := fun o => (bcell hb1).1 (w.heap.size) o (by first | omega | (simp; done) | (simp; omega)); have hf1_0 := fun o => (bcell hb1).2 (w.heap.size) o (by first | omega | (simp; done) | (simp; omega)); have : w.heap.size < w1.heap.size := (by first | omega | (simp; done) | (simp; omega)); have : w.heap.size < w1.heap.size + 1 := (by first | omega | (simp; done) | (simp; omega)); have : w.heap.size < w1.heap.size + 2 := (by first | omega | (simp; done) | (simp; omega)); have : w.heap.size < w1.heap.size + 3 := (by first | omega | (simp; done) | (simp; omega)))
    have hB1 : Below w.heap.size w w1 := by (repeat' (first | (with_reducible exact Below.refl _ _) | (with_reducible assumption) | (with_reducible refine Below.drew ?_) | (with_reducible refine below_drewN ?_ _) | (with_reducible refine Below.setCell ?_ ?_ _) | (with_reducible refine Below.alloc ?_ ?_ _) | (refine Below.trans ?_ (Below.mono (by with_reducible assumption) ?_)) | omega | (exact Below.size (by with_reducible assumption)) | (simp; done) | (simp; omega)))
    clear hb1
    go_wp2_with fail
    refine (draw75 A0 A1 A2 n0 n1 n2 c0 c1 c2 cw B D R _ (HC.out.below hB1 (Nat.le_refl _)) hV).mono ?_
    rintro e w2 ⟨cb, hcb, rfl, hch, hb2⟩
    have hB2 : Below w.heap.size w w2 := by (repeat' (first | (with_reducible exact Below.refl _ _) | (with_reducible assumption) | (with_reducible refine Below.drew ?_) | (with_reducible refine below_drewN ?_ _) | (with_reducible refine Below.setCell ?_ ?_ _) | (with_reducible refine Below.alloc ?_ ?_ _) | (refine Below.trans ?_ (Below.mono (by with_reducible assumption) ?_)) | omega | (exact Below.size (by with_reducible assumption)) | (simp; done) | (simp; omega)))
    clear hb2
    go_wp2_with fail
    refine (fewest76 cb A0 A1 A2 n0 n1 n2 c0 c1 c2 cw B D R none [] 0 0 _ hch (RdI.nil _ _) rfl (by omega) hn1).mono ?_
    rintro e w3 ⟨rfl, hb3⟩
    go_wp2
    go_ret2
    exact ⟨by rw [hEe.out, hNe.out]; rfl, by (repeat' (first | (with_reducible exact Below.refl _ _) | (with_reducible assumption) | (with_reducible refine Below.drew ?_) | (with_reducible refine below_drewN ?_ _) | (with_reducible refine Below.setCell ?_ ?_ _) | (with_reducible refine Below.alloc ?_ ?_ _) | (refine Below.trans ?_ (Below.mono (by with_reducible assumption) ?_)) | omega | (exact Below.size (by with_reducible assumption)) | (simp; done) | (simp; omega)))⟩
  · have hNe : Hid (fewN cw B D R = 0) := by show _ = _; unfold fewN; rw [if_neg (by rw [h]; decide)]
    have hEe : Hid (fewE cw B D R = 100) := h
    have H := Lib.hid h
    clear h
    go_enter Tryd.func33, Tryd.ntmps33
    go_wp2_with fail
    refine (check44 A0 A1 A2 n0 n1 n2 c0 c1 c2 cw B D R _ (HC.out.below oB (Nat.le_refl _))).mono ?_
    rw [H.out]
    rintro e w1 ⟨rfl, hb1⟩
    (have hz1 := hb1.size; (try simp at hz1); have hc1_0 := fun o => (bcell hb1).1 (w.heap.size) o (by first | omega | (simp; done) | (simp; omega)); have hf1_0 := fun o => (bcell hb1).2 (w.heap.size) o (by first | omega | (simp; done) | (simp; omega)); have : w.heap.size < w1.heap.size := (by first | omega | (simp; done) | (simp; omega)); have : w.heap.size < w1.heap.size + 1 := (by first | omega | (simp; done) | (simp; omega)); have : w.heap.size < w1.heap.size + 2 := (by first | omega | (simp; done) | (simp; omega)); have : w.heap.size < w1.heap.size + 3 := (by first | omega | (simp; done) | (simp; omega)))
    go_wp2
    go_ret2
    exact ⟨by rw [hEe.out, hNe.out]; rfl, by (repeat' (first | (with_reducible exact Below.refl _ _) | (with_reducible assumption) | (with_reducible refine Below.drew ?_) | (with_reducible refine below_drewN ?_ _) | (with_reducible refine Below.setCell ?_ ?_ _) | (with_reducible refine Below.alloc ?_ ?_ _) | (refine Below.trans ?_ (Below.mono (by with_reducible assumption) ?_)) | omega | (exact Below.size (by with_reducible assumption)) | (simp; done) | (simp; omega)))⟩

end Go.Proofs.YtibkgnnpmidgfaaDoor
