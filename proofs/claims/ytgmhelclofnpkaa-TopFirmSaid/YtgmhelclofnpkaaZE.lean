/- Discord: the reference and law 08. -/
import Derived.Test.YtgmhelclofnpkaaZA
import Derived.Test.YtgmhelclofnpkaaQc
import Derived.Test.YtgmhelclofnpkaaZD
namespace Go.Proofs.Ytgmhelclofnpkaa
open Go.RowKit

namespace Wl
def okWb (h : Wh) : Bool := btw h.full 10 10000 && (btw h.read 0 20 && (btw h.slip 0 20 && (btw h.skew 0 20 && (btw h.circ 0 9999 && (btw h.lo 0 h.hi && (decide (h.hi ≤ 9999) && btw h.wrong 0 8))))))
def oneB (n : Int) : Bool := decide (n = 1) || decide (n = -1)
def okKb (h : Wh) (x : Wk) : Bool := oneB x.s && (oneB x.sd && (btw x.ins 0 1 && (btw x.st 0 (h.full - 1) && btw x.en 0 (h.full - 1))))
theorem okW_of {h : Wh} (k : okWb h = true) : Ok h := by
  unfold okWb at k
  simp only [Bool.and_eq_true, btw_iff, decide_eq_true_eq] at k
  constructor <;> omega
theorem okK_of {h : Wh} {x : Wk} (k : okKb h x = true) : OkK h x := by
  unfold okKb oneB at k
  simp only [Bool.and_eq_true, Bool.or_eq_true, btw_iff, decide_eq_true_eq] at k
  constructor <;> omega
/-- What the reference's test returns. -/
def w3V (h : Wh) (l : List Wk) : Int := if okWb h = true then (if (l.all (okKb h) && decide (l.length ≤ 8)) = true then 0 else 31) else 30
theorem w3V_0 {h : Wh} {l : List Wk} (k : w3V h l = 0) : WhV h l := by
  unfold w3V at k
  by_cases h1 : okWb h = true
  · rw [if_pos h1] at k
    by_cases h2 : (l.all (okKb h) && decide (l.length ≤ 8)) = true
    · simp only [Bool.and_eq_true, List.all_eq_true, decide_eq_true_eq] at h2
      exact ⟨okW_of h1, h2.2, fun x hx => okK_of (h2.1 x hx)⟩
    · rw [if_neg h2] at k; omega
  · rw [if_neg h1] at k; omega
end Wl
set_option maxHeartbeats 400000 in
theorem n1WithinW (n lo hi : Int) (w : World) :
    Calls Try.prog 152 #[.int .i64 n, .int .i64 lo, .int .i64 hi] w fun e w' => e = .returned (.bool (btw n lo hi)) ∧ w = w' := by
  go_enter Try.func152, Try.ntmps152
  go_wp2
  all_goals go_ret
  all_goals exact ⟨ret_bool (by unfold btw; (first | rfl | (rw [Bool.eq_iff_iff]; simp; done) | (rw [Bool.eq_iff_iff]; simp; omega))), rfl⟩
set_option maxHeartbeats 400000 in
theorem w3withinW (n lo hi : Int) (w : World) :
    Calls Try.prog 135 #[.int .i64 n, .int .i64 lo, .int .i64 hi] w fun e w' => e = .returned (.bool (btw n lo hi)) ∧ w = w' := by
  go_enter Try.func135, Try.ntmps135
  go_wp2_with fail
  refine (n1WithinW _ _ _ _).mono ?_
  rintro e w1 ⟨rfl, rfl⟩
  go_wp2
  go_ret
  exact ⟨rfl, rfl⟩
theorem w3wB {n lo hi : Int} {b : Bool} (h : Hid (btw n lo hi = b)) (w : World) : Calls Try.prog 135 #[.int .i64 n, .int .i64 lo, .int .i64 hi] w fun e w' => e = .returned (.bool b) ∧ w = w' := cPB h.out (w3withinW n lo hi w)
set_option maxHeartbeats 400000 in
theorem w3isOneW (n : Int) (w : World) : Calls Try.prog 136 #[.int .i64 n] w fun e w' => e = .returned (.bool (Wl.oneB n)) ∧ w = w' := by
  by_cases h : n = 1
  · subst h
    go_enter Try.func136, Try.ntmps136
    go_wp2
    go_ret
    exact ⟨rfl, rfl⟩
  · have hb : (n == 1) = false := by simpa using h
    have hd : decide (n = 1) = false := decide_eq_false h
    go_enter Try.func136, Try.ntmps136
    go_wp2
    go_ret
    exact ⟨ret_bool (by unfold Wl.oneB; rw [hd]; (first | rfl | (rw [Bool.eq_iff_iff]; simp; done) | (rw [Bool.eq_iff_iff]; simp; omega))), rfl⟩
theorem w3oB {n : Int} {b : Bool} (h : Hid (Wl.oneB n = b)) (w : World) : Calls Try.prog 136 #[.int .i64 n] w fun e w' => e = .returned (.bool b) ∧ w = w' := cPB h.out (w3isOneW n w)
set_option maxHeartbeats 8000000 in
theorem w3isWheelW (h : Wh) (w : World) : Calls Try.prog 99 #[whV h] w fun e w' => e = .returned (.bool (Wl.okWb h)) ∧ Below w.heap.size w w' := by
  obtain ⟨full, read, slip, skew, circ, lo, hi, wrong⟩ := h
  cases h0 : btw full 10 10000
  · replace h0 := Lib.hid h0
    have hv : Wl.okWb ⟨full, read, slip, skew, circ, lo, hi, wrong⟩ = false := by unfold Wl.okWb; simp only; rw [h0.out]; rfl
    rw [hv]
    clear hv
    go_enter Try.func99, Try.ntmps99
    go_wp2_with fail
    refine (w3wB h0 _).mono ?_
    rintro e w1 ⟨rfl, rfl⟩
    go_wp2
    go_ret
    exact ⟨rfl, by (repeat' (first | (with_reducible exact Below.refl _ _) | (with_reducible assumption) | (with_reducible refine Below.drew ?_) | (with_reducible refine below_drewN ?_ _) | (with_reducible refine Below.setCell ?_ ?_ _) | (with_reducible refine Below.alloc ?_ ?_ _) | (refine Below.trans ?_ (Below.mono (by with_reducible assumption) ?_)) | omega | (exact Below.size (by with_reducible assumption)) | (simp; done) | (simp; omega)))⟩
  · replace h0 := Lib.hid h0
    cases h1 : btw read 0 20
    · replace h1 := Lib.hid h1
      have hv : Wl.okWb ⟨full, read, slip, skew, circ, lo, hi, wrong⟩ = false := by unfold Wl.okWb; simp only; rw [h0.out, h1.out]; rfl
      rw [hv]
      clear hv
      go_enter Try.func99, Try.ntmps99
      go_wp2_with fail
      refine (w3wB h0 _).mono ?_
      rintro e w1 ⟨rfl, rfl⟩
      go_wp2_with fail
      refine (w3wB h1 _).mono ?_
      rintro e w1 ⟨rfl, rfl⟩
      go_wp2
      go_ret
      exact ⟨rfl, by (repeat' (first | (with_reducible exact Below.refl _ _) | (with_reducible assumption) | (with_reducible refine Below.drew ?_) | (with_reducible refine below_drewN ?_ _) | (with_reducible refine Below.setCell ?_ ?_ _) | (with_reducible refine Below.alloc ?_ ?_ _) | (refine Below.trans ?_ (Below.mono (by with_reducible assumption) ?_)) | omega | (exact Below.size (by with_reducible assumption)) | (simp; done) | (simp; omega)))⟩
    · replace h1 := Lib.hid h1
      cases h2 : btw slip 0 20
      · replace h2 := Lib.hid h2
        have hv : Wl.okWb ⟨full, read, slip, skew, circ, lo, hi, wrong⟩ = false := by unfold Wl.okWb; simp only; rw [h0.out, h1.out, h2.out]; rfl
        rw [hv]
        clear hv
        go_enter Try.func99, Try.ntmps99
        go_wp2_with fail
        refine (w3wB h0 _).mono ?_
        rintro e w1 ⟨rfl, rfl⟩
        go_wp2_with fail
        refine (w3wB h1 _).mono ?_
        rintro e w1 ⟨rfl, rfl⟩
        go_wp2_with fail
        refine (w3wB h2 _).mono ?_
        rintro e w1 ⟨rfl, rfl⟩
        go_wp2
        go_ret
        exact ⟨rfl, by (repeat' (first | (with_reducible exact Below.refl _ _) | (with_reducible assumption) | (with_reducible refine Below.drew ?_) | (with_reducible refine below_drewN ?_ _) | (with_reducible refine Below.setCell ?_ ?_ _) | (with_reducible refine Below.alloc ?_ ?_ _) | (refine Below.trans ?_ (Below.mono (by with_reducible assumption) ?_)) | omega | (exact Below.size (by with_reducible assumption)) | (simp; done) | (simp; omega)))⟩
      · replace h2 := Lib.hid h2
        cases h3 : btw skew 0 20
        · replace h3 := Lib.hid h3
          have hv : Wl.okWb ⟨full, read, slip, skew, circ, lo, hi, wrong⟩ = false := by unfold Wl.okWb; simp only; rw [h0.out, h1.out, h2.out, h3.out]; rfl
          rw [hv]
          clear hv
          go_enter Try.func99, Try.ntmps99
          go_wp2_with fail
          refine (w3wB h0 _).mono ?_
          rintro e w1 ⟨rfl, rfl⟩
          go_wp2_with fail
          refine (w3wB h1 _).mono ?_
          rintro e w1 ⟨rfl, rfl⟩
          go_wp2_with fail
          refine (w3wB h2 _).mono ?_
          rintro e w1 ⟨rfl, rfl⟩
          go_wp2_with fail
          refine (w3wB h3 _).mono ?_
          rintro e w1 ⟨rfl, rfl⟩
          go_wp2
          go_ret
          exact ⟨rfl, by (repeat' (first | (with_reducible exact Below.refl _ _) | (with_reducible assumption) | (with_reducible refine Below.drew ?_) | (with_reducible refine below_drewN ?_ _) | (with_reducible refine Below.setCell ?_ ?_ _) | (with_reducible refine Below.alloc ?_ ?_ _) | (refine Below.trans ?_ (Below.mono (by with_reducible assumption) ?_)) | omega | (exact Below.size (by with_reducible assumption)) | (simp; done) | (simp; omega)))⟩
        · replace h3 := Lib.hid h3
          cases h4 : btw circ 0 9999
          · replace h4 := Lib.hid h4
            have hv : Wl.okWb ⟨full, read, slip, skew, circ, lo, hi, wrong⟩ = false := by unfold Wl.okWb; simp only; rw [h0.out, h1.out, h2.out, h3.out, h4.out]; rfl
            rw [hv]
            clear hv
            go_enter Try.func99, Try.ntmps99
            go_wp2_with fail
            refine (w3wB h0 _).mono ?_
            rintro e w1 ⟨rfl, rfl⟩
            go_wp2_with fail
            refine (w3wB h1 _).mono ?_
            rintro e w1 ⟨rfl, rfl⟩
            go_wp2_with fail
            refine (w3wB h2 _).mono ?_
            rintro e w1 ⟨rfl, rfl⟩
            go_wp2_with fail
            refine (w3wB h3 _).mono ?_
            rintro e w1 ⟨rfl, rfl⟩
            go_wp2_with fail
            refine (w3wB h4 _).mono ?_
            rintro e w1 ⟨rfl, rfl⟩
            go_wp2
            go_ret
            exact ⟨rfl, by (repeat' (first | (with_reducible exact Below.refl _ _) | (with_reducible assumption) | (with_reducible refine Below.drew ?_) | (with_reducible refine below_drewN ?_ _) | (with_reducible refine Below.setCell ?_ ?_ _) | (with_reducible refine Below.alloc ?_ ?_ _) | (refine Below.trans ?_ (Below.mono (by with_reducible assumption) ?_)) | omega | (exact Below.size (by with_reducible assumption)) | (simp; done) | (simp; omega)))⟩
          · replace h4 := Lib.hid h4
            cases h5 : btw lo 0 hi
            · replace h5 := Lib.hid h5
              have hv : Wl.okWb ⟨full, read, slip, skew, circ, lo, hi, wrong⟩ = false := by unfold Wl.okWb; simp only; rw [h0.out, h1.out, h2.out, h3.out, h4.out, h5.out]; rfl
              rw [hv]
              clear hv
              go_enter Try.func99, Try.ntmps99
              go_wp2_with fail
              refine (w3wB h0 _).mono ?_
              rintro e w1 ⟨rfl, rfl⟩
              go_wp2_with fail
              refine (w3wB h1 _).mono ?_
              rintro e w1 ⟨rfl, rfl⟩
              go_wp2_with fail
              refine (w3wB h2 _).mono ?_
              rintro e w1 ⟨rfl, rfl⟩
              go_wp2_with fail
              refine (w3wB h3 _).mono ?_
              rintro e w1 ⟨rfl, rfl⟩
              go_wp2_with fail
              refine (w3wB h4 _).mono ?_
              rintro e w1 ⟨rfl, rfl⟩
              go_wp2_with fail
              refine (w3wB h5 _).mono ?_
              rintro e w1 ⟨rfl, rfl⟩
              go_wp2
              go_ret
              exact ⟨rfl, by (repeat' (first | (with_reducible exact Below.refl _ _) | (with_reducible assumption) | (with_reducible refine Below.drew ?_) | (with_reducible refine below_drewN ?_ _) | (with_reducible refine Below.setCell ?_ ?_ _) | (with_reducible refine Below.alloc ?_ ?_ _) | (refine Below.trans ?_ (Below.mono (by with_reducible assumption) ?_)) | omega | (exact Below.size (by with_reducible assumption)) | (simp; done) | (simp; omega)))⟩
            · replace h5 := Lib.hid h5
              by_cases h6 : hi ≤ 9999
              · have hd : decide (hi ≤ 9999) = true := decide_eq_true h6
                cases h7 : btw wrong 0 8
                · replace h7 := Lib.hid h7
                  have hv : Wl.okWb ⟨full, read, slip, skew, circ, lo, hi, wrong⟩ = false := by unfold Wl.okWb; simp only; rw [h0.out, h1.out, h2.out, h3.out, h4.out, h5.out, hd, h7.out]; rfl
                  rw [hv]
                  clear hv
                  go_enter Try.func99, Try.ntmps99
                  go_wp2_with fail
                  refine (w3wB h0 _).mono ?_
                  rintro e w1 ⟨rfl, rfl⟩
                  go_wp2_with fail
                  refine (w3wB h1 _).mono ?_
                  rintro e w1 ⟨rfl, rfl⟩
                  go_wp2_with fail
                  refine (w3wB h2 _).mono ?_
                  rintro e w1 ⟨rfl, rfl⟩
                  go_wp2_with fail
                  refine (w3wB h3 _).mono ?_
                  rintro e w1 ⟨rfl, rfl⟩
                  go_wp2_with fail
                  refine (w3wB h4 _).mono ?_
                  rintro e w1 ⟨rfl, rfl⟩
                  go_wp2_with fail
                  refine (w3wB h5 _).mono ?_
                  rintro e w1 ⟨rfl, rfl⟩
                  go_wp2_with fail
                  refine (w3wB h7 _).mono ?_
                  rintro e w1 ⟨rfl, rfl⟩
                  go_wp2
                  go_ret
                  exact ⟨rfl, by (repeat' (first | (with_reducible exact Below.refl _ _) | (with_reducible assumption) | (with_reducible refine Below.drew ?_) | (with_reducible refine below_drewN ?_ _) | (with_reducible refine Below.setCell ?_ ?_ _) | (with_reducible refine Below.alloc ?_ ?_ _) | (refine Below.trans ?_ (Below.mono (by with_reducible assumption) ?_)) | omega | (exact Below.size (by with_reducible assumption)) | (simp; done) | (simp; omega)))⟩
                · replace h7 := Lib.hid h7
                  have hv : Wl.okWb ⟨full, read, slip, skew, circ, lo, hi, wrong⟩ = true := by unfold Wl.okWb; simp only; rw [h0.out, h1.out, h2.out, h3.out, h4.out, h5.out, hd, h7.out]; rfl
                  rw [hv]
                  clear hv
                  go_enter Try.func99, Try.ntmps99
                  go_wp2_with fail
                  refine (w3wB h0 _).mono ?_
                  rintro e w1 ⟨rfl, rfl⟩
                  go_wp2_with fail
                  refine (w3wB h1 _).mono ?_
                  rintro e w1 ⟨rfl, rfl⟩
                  go_wp2_with fail
                  refine (w3wB h2 _).mono ?_
                  rintro e w1 ⟨rfl, rfl⟩
                  go_wp2_with fail
                  refine (w3wB h3 _).mono ?_
                  rintro e w1 ⟨rfl, rfl⟩
                  go_wp2_with fail
                  refine (w3wB h4 _).mono ?_
                  rintro e w1 ⟨rfl, rfl⟩
                  go_wp2_with fail
                  refine (w3wB h5 _).mono ?_
                  rintro e w1 ⟨rfl, rfl⟩
                  go_wp2_with fail
                  refine (w3wB h7 _).mono ?_
                  rintro e w1 ⟨rfl, rfl⟩
                  go_wp2
                  go_ret
                  exact ⟨rfl, by (repeat' (first | (with_reducible exact Below.refl _ _) | (with_reducible assumption) | (with_reducible refine Below.drew ?_) | (with_reducible refine below_drewN ?_ _) | (with_reducible refine Below.setCell ?_ ?_ _) | (with_reducible refine Below.alloc ?_ ?_ _) | (refine Below.trans ?_ (Below.mono (by with_reducible assumption) ?_)) | omega | (exact Below.size (by with_reducible assumption)) | (simp; done) | (simp; omega)))⟩
              · have hd : decide (hi ≤ 9999) = false := decide_eq_false h6
                have hv : Wl.okWb ⟨full, read, slip, skew, circ, lo, hi, wrong⟩ = false := by unfold Wl.okWb; simp only; rw [h0.out, h1.out, h2.out, h3.out, h4.out, h5.out, hd]; rfl
                rw [hv]
                clear hv
                go_enter Try.func99, Try.ntmps99
                go_wp2_with fail
                refine (w3wB h0 _).mono ?_
                rintro e w1 ⟨rfl, rfl⟩
                go_wp2_with fail
                refine (w3wB h1 _).mono ?_
                rintro e w1 ⟨rfl, rfl⟩
                go_wp2_with fail
                refine (w3wB h2 _).mono ?_
                rintro e w1 ⟨rfl, rfl⟩
                go_wp2_with fail
                refine (w3wB h3 _).mono ?_
                rintro e w1 ⟨rfl, rfl⟩
                go_wp2_with fail
                refine (w3wB h4 _).mono ?_
                rintro e w1 ⟨rfl, rfl⟩
                go_wp2_with fail
                refine (w3wB h5 _).mono ?_
                rintro e w1 ⟨rfl, rfl⟩
                go_wp2
                go_ret
                exact ⟨rfl, by (repeat' (first | (with_reducible exact Below.refl _ _) | (with_reducible assumption) | (with_reducible refine Below.drew ?_) | (with_reducible refine below_drewN ?_ _) | (with_reducible refine Below.setCell ?_ ?_ _) | (with_reducible refine Below.alloc ?_ ?_ _) | (refine Below.trans ?_ (Below.mono (by with_reducible assumption) ?_)) | omega | (exact Below.size (by with_reducible assumption)) | (simp; done) | (simp; omega)))⟩
set_option maxHeartbeats 8000000 in
theorem w3IsWalkW (h : Wh) (x : Wk) (w : World) (hf : 10 ≤ h.full ∧ h.full ≤ 10000) : Calls Try.prog 100 #[whV h, wkV x] w fun e w' => e = .returned (.bool (Wl.okKb h x)) ∧ Below w.heap.size w w' := by
  obtain ⟨full, read, slip, skew, circ, lo, hi, wrong⟩ := h
  obtain ⟨s, sd, ins, st, en⟩ := x
  have hw : IntKind.i64.wrap (full - 1) = full - 1 := IntWalk.i64_in _ (by simp only at hf; omega)
  clear hf
  cases h0 : Wl.oneB s
  · replace h0 := Lib.hid h0
    have hv : Wl.okKb ⟨full, read, slip, skew, circ, lo, hi, wrong⟩ ⟨s, sd, ins, st, en⟩ = false := by unfold Wl.okKb; simp only; rw [h0.out]; rfl
    rw [hv]
    clear hv
    go_enter Try.func100, Try.ntmps100
    go_wp2_with fail
    refine (w3oB h0 _).mono ?_
    rintro e w1 ⟨rfl, rfl⟩
    go_wp2
    go_ret
    exact ⟨rfl, by (repeat' (first | (with_reducible exact Below.refl _ _) | (with_reducible assumption) | (with_reducible refine Below.drew ?_) | (with_reducible refine below_drewN ?_ _) | (with_reducible refine Below.setCell ?_ ?_ _) | (with_reducible refine Below.alloc ?_ ?_ _) | (refine Below.trans ?_ (Below.mono (by with_reducible assumption) ?_)) | omega | (exact Below.size (by with_reducible assumption)) | (simp; done) | (simp; omega)))⟩
  · replace h0 := Lib.hid h0
    cases h1 : Wl.oneB sd
    · replace h1 := Lib.hid h1
      have hv : Wl.okKb ⟨full, read, slip, skew, circ, lo, hi, wrong⟩ ⟨s, sd, ins, st, en⟩ = false := by unfold Wl.okKb; simp only; rw [h0.out, h1.out]; rfl
      rw [hv]
      clear hv
      go_enter Try.func100, Try.ntmps100
      go_wp2_with fail
      refine (w3oB h0 _).mono ?_
      rintro e w1 ⟨rfl, rfl⟩
      go_wp2_with fail
      refine (w3oB h1 _).mono ?_
      rintro e w1 ⟨rfl, rfl⟩
      go_wp2
      go_ret
      exact ⟨rfl, by (repeat' (first | (with_reducible exact Below.refl _ _) | (with_reducible assumption) | (with_reducible refine Below.drew ?_) | (with_reducible refine below_drewN ?_ _) | (with_reducible refine Below.setCell ?_ ?_ _) | (with_reducible refine Below.alloc ?_ ?_ _) | (refine Below.trans ?_ (Below.mono (by with_reducible assumption) ?_)) | omega | (exact Below.size (by with_reducible assumption)) | (simp; done) | (simp; omega)))⟩
    · replace h1 := Lib.hid h1
      cases h2 : btw ins 0 1
      · replace h2 := Lib.hid h2
        have hv : Wl.okKb ⟨full, read, slip, skew, circ, lo, hi, wrong⟩ ⟨s, sd, ins, st, en⟩ = false := by unfold Wl.okKb; simp only; rw [h0.out, h1.out, h2.out]; rfl
        rw [hv]
        clear hv
        go_enter Try.func100, Try.ntmps100
        go_wp2_with fail
        refine (w3oB h0 _).mono ?_
        rintro e w1 ⟨rfl, rfl⟩
        go_wp2_with fail
        refine (w3oB h1 _).mono ?_
        rintro e w1 ⟨rfl, rfl⟩
        go_wp2_with fail
        refine (w3wB h2 _).mono ?_
        rintro e w1 ⟨rfl, rfl⟩
        go_wp2
        go_ret
        exact ⟨rfl, by (repeat' (first | (with_reducible exact Below.refl _ _) | (with_reducible assumption) | (with_reducible refine Below.drew ?_) | (with_reducible refine below_drewN ?_ _) | (with_reducible refine Below.setCell ?_ ?_ _) | (with_reducible refine Below.alloc ?_ ?_ _) | (refine Below.trans ?_ (Below.mono (by with_reducible assumption) ?_)) | omega | (exact Below.size (by with_reducible assumption)) | (simp; done) | (simp; omega)))⟩
      · replace h2 := Lib.hid h2
        cases h3 : btw st 0 (full - 1)
        · replace h3 := Lib.hid h3
          have hv : Wl.okKb ⟨full, read, slip, skew, circ, lo, hi, wrong⟩ ⟨s, sd, ins, st, en⟩ = false := by unfold Wl.okKb; simp only; rw [h0.out, h1.out, h2.out, h3.out]; rfl
          rw [hv]
          clear hv
          go_enter Try.func100, Try.ntmps100
          go_wp2_with fail
          refine (w3oB h0 _).mono ?_
          rintro e w1 ⟨rfl, rfl⟩
          go_wp2_with fail
          refine (w3oB h1 _).mono ?_
          rintro e w1 ⟨rfl, rfl⟩
          go_wp2_with fail
          refine (w3wB h2 _).mono ?_
          rintro e w1 ⟨rfl, rfl⟩
          go_wp2_with fail
          refine (w3wB h3 _).mono ?_
          rintro e w1 ⟨rfl, rfl⟩
          go_wp2
          go_ret
          exact ⟨rfl, by (repeat' (first | (with_reducible exact Below.refl _ _) | (with_reducible assumption) | (with_reducible refine Below.drew ?_) | (with_reducible refine below_drewN ?_ _) | (with_reducible refine Below.setCell ?_ ?_ _) | (with_reducible refine Below.alloc ?_ ?_ _) | (refine Below.trans ?_ (Below.mono (by with_reducible assumption) ?_)) | omega | (exact Below.size (by with_reducible assumption)) | (simp; done) | (simp; omega)))⟩
        · replace h3 := Lib.hid h3
          cases h4 : btw en 0 (full - 1)
          · replace h4 := Lib.hid h4
            have hv : Wl.okKb ⟨full, read, slip, skew, circ, lo, hi, wrong⟩ ⟨s, sd, ins, st, en⟩ = false := by unfold Wl.okKb; simp only; rw [h0.out, h1.out, h2.out, h3.out, h4.out]; rfl
            rw [hv]
            clear hv
            go_enter Try.func100, Try.ntmps100
            go_wp2_with fail
            refine (w3oB h0 _).mono ?_
            rintro e w1 ⟨rfl, rfl⟩
            go_wp2_with fail
            refine (w3oB h1 _).mono ?_
            rintro e w1 ⟨rfl, rfl⟩
            go_wp2_with fail
            refine (w3wB h2 _).mono ?_
            rintro e w1 ⟨rfl, rfl⟩
            go_wp2_with fail
            refine (w3wB h3 _).mono ?_
            rintro e w1 ⟨rfl, rfl⟩
            go_wp2_with fail
            refine (w3wB h4 _).mono ?_
            rintro e w1 ⟨rfl, rfl⟩
            go_wp2
            go_ret
            exact ⟨rfl, by (repeat' (first | (with_reducible exact Below.refl _ _) | (with_reducible assumption) | (with_reducible refine Below.drew ?_) | (with_reducible refine below_drewN ?_ _) | (with_reducible refine Below.setCell ?_ ?_ _) | (with_reducible refine Below.alloc ?_ ?_ _) | (refine Below.trans ?_ (Below.mono (by with_reducible assumption) ?_)) | omega | (exact Below.size (by with_reducible assumption)) | (simp; done) | (simp; omega)))⟩
          · replace h4 := Lib.hid h4
            have hv : Wl.okKb ⟨full, read, slip, skew, circ, lo, hi, wrong⟩ ⟨s, sd, ins, st, en⟩ = true := by unfold Wl.okKb; simp only; rw [h0.out, h1.out, h2.out, h3.out, h4.out]; rfl
            rw [hv]
            clear hv
            go_enter Try.func100, Try.ntmps100
            go_wp2_with fail
            refine (w3oB h0 _).mono ?_
            rintro e w1 ⟨rfl, rfl⟩
            go_wp2_with fail
            refine (w3oB h1 _).mono ?_
            rintro e w1 ⟨rfl, rfl⟩
            go_wp2_with fail
            refine (w3wB h2 _).mono ?_
            rintro e w1 ⟨rfl, rfl⟩
            go_wp2_with fail
            refine (w3wB h3 _).mono ?_
            rintro e w1 ⟨rfl, rfl⟩
            go_wp2_with fail
            refine (w3wB h4 _).mono ?_
            rintro e w1 ⟨rfl, rfl⟩
            go_wp2
            go_ret
            exact ⟨rfl, by (repeat' (first | (with_reducible exact Below.refl _ _) | (with_reducible assumption) | (with_reducible refine Below.drew ?_) | (with_reducible refine below_drewN ?_ _) | (with_reducible refine Below.setCell ?_ ?_ _) | (with_reducible refine Below.alloc ?_ ?_ _) | (refine Below.trans ?_ (Below.mono (by with_reducible assumption) ?_)) | omega | (exact Below.size (by with_reducible assumption)) | (simp; done) | (simp; omega)))⟩
theorem w3tB {h : Wh} {b : Bool} (k : Wl.okWb h = b) (w : World) : Calls Try.prog 99 #[whV h] w fun e w' => e = .returned (.bool b) ∧ Below w.heap.size w w' := cBB k (w3isWheelW h w)
end Go.Proofs.Ytgmhelclofnpkaa
namespace Go.Proofs.Ytgmhelclofnpkaa
open Go.RowKit

namespace Wl
theorem v30 {h : Wh} {l : List Wk} (k : okWb h = false) : (30 : Int) = w3V h l := by
  unfold w3V
  rw [if_neg (by rw [k]; simp)]
theorem v31 {h : Wh} {l : List Wk} (k : okWb h = true) (k2 : (l.all (okKb h) && decide (l.length ≤ 8)) = false) : (31 : Int) = w3V h l := by
  unfold w3V
  rw [if_pos k, if_neg (by rw [k2]; simp)]
theorem v00 {h : Wh} {l : List Wk} (k : okWb h = true) (k1 : l.all (okKb h) = true) (k2 : l.length ≤ 8) : (0 : Int) = w3V h l := by
  unfold w3V
  rw [if_pos k, if_pos (by rw [k1, decide_eq_true k2]; rfl)]
theorem all_no {h : Wh} {l : List Wk} {x : Wk} (hx : x ∈ l) (k : okKb h x = false) : (l.all (okKb h) && decide (l.length ≤ 8)) = false := by
  rw [List.all_eq_false.2 ⟨x, hx, by rw [k]; simp⟩]; rfl
end Wl
theorem w3kB {h : Wh} {x : Wk} {b : Bool} (k : Wl.okKb h x = b) (w : World) (hf : 10 ≤ h.full ∧ h.full ≤ 10000) : Calls Try.prog 100 #[whV h, wkV x] w fun e w' => e = .returned (.bool b) ∧ Below w.heap.size w w' := cBB k (w3IsWalkW h x w hf)
set_option maxHeartbeats 4000000 in
theorem w3CheckW (h : Wh) (A : Option Addr) (l : List Wk) (n cap : Nat) (w : World) (hA : Rd 5 w A (l.map wkrow)) (hn : Hid (n = l.length)) (hlen : n ≤ 9223372036854775807) :
    Calls Try.prog 65 #[whV h, .slice A n cap] w fun e w' => e = .returned (.int .i64 (Wl.w3V h l)) ∧ Below w.heap.size w w' := by
  have HA := Lib.hid hA
  clear hA
  have o0 : Own (w.alloc (.cells #[.int .i64 h.full, .int .i64 h.read, .int .i64 h.slip, .int .i64 h.skew, .int .i64 h.circ, .int .i64 h.lo, .int .i64 h.hi, .int .i64 h.wrong] 34)) w.heap.size (whC h) := Own.new' _ _ rfl rfl
  have oB : Below w.heap.size w (w.alloc (.cells #[.int .i64 h.full, .int .i64 h.read, .int .i64 h.slip, .int .i64 h.skew, .int .i64 h.circ, .int .i64 h.lo, .int .i64 h.hi, .int .i64 h.wrong] 34)) := by (repeat' (first | (with_reducible exact Below.refl _ _) | (with_reducible assumption) | (with_reducible refine Below.drew ?_) | (with_reducible refine below_drewN ?_ _) | (with_reducible refine Below.setCell ?_ ?_ _) | (with_reducible refine Below.alloc ?_ ?_ _) | (refine Below.trans ?_ (Below.mono (by with_reducible assumption) ?_)) | omega | (exact Below.size (by with_reducible assumption)) | (simp; done) | (simp; omega)))
  cases hb : Wl.okWb h
  · have hv := Wl.v30 (l := l) hb
    rw [← hv]
    clear hv
    go_enter Try.func65, Try.ntmps65
    go_wp2_with fail
    refine (w3tB hb _).mono ?_
    rintro e w1 ⟨rfl, hb1⟩
    go_wp2
    go_ret
    exact ⟨rfl, oB.trans (hb1.mono oB.size)⟩
  · have hf : 10 ≤ h.full ∧ h.full ≤ 10000 := (Wl.okW_of hb).full
    have HK := Lib.hid hb
    have O0 := Lib.hid o0
    obtain ⟨l0, c0, f0⟩ := o0
    go_enter Try.func65, Try.ntmps65
    go_wp2_with fail
    refine (w3tB hb _).mono ?_
    clear hb
    rintro e w1 ⟨rfl, hb1⟩
    have o1 := O0.out.below hb1 O0.out.lt
    have hB1 := oB.trans (hb1.mono oB.size)
    clear O0 l0 c0 f0 hb1 oB
    go_wp2_with fail
    go_loopg [5] n (fun K i wr => ∃ k : Nat, K + k = n ∧ i = .int .i64 k ∧ Hid ((l.take k).all (Wl.okKb h) = true) ∧ Below w.heap.size w wr ∧ Own wr w.heap.size (whC h))
    case atStart => exact ⟨0, rfl, rfl, rfl, hB1, o1⟩
    case round =>
      clear hB1 o1
      obtain ⟨k, hk, rfl, hI, hbw, hv⟩ := hrel
      by_cases hlt : k < n
      · obtain ⟨g, hg⟩ : ∃ g, Hid (l[k]? = some g) := ⟨l[k]'(by have := hn.out; omega), by simp [Hid]⟩
        have hv' := hv
        obtain ⟨l00, k0, f0⟩ := hv'
        obtain ⟨b, off, rfl, hb, hc0, hc1, hc2, hc3, hc4⟩ := rd_wk (HA.out.below hbw (Nat.le_refl _)) hg.out
        have hx := Aft.cell hv
        have hx0 := fun x : Aft wr => (Aft.old x hb _).trans hc0
        have hx1 := fun x : Aft wr => (Aft.old x hb _).trans hc1
        have hx2 := fun x : Aft wr => (Aft.old x hb _).trans hc2
        have hx3 := fun x : Aft wr => (Aft.old x hb _).trans hc3
        have hx4 := fun x : Aft wr => (Aft.old x hb _).trans hc4
        cases h1 : Wl.okKb h g
        · have hE := Lib.hid (Wl.v31 HK.out (Wl.all_no (List.mem_of_getElem? hg.out) h1))
          have H1 := Lib.hid h1
          clear h1
          go_wp2
          refine wp_region_aft (by kernel_rfl) (by kernel_rfl) ?_; (repeat (go_big_quiet_step ((go_at_call 100; exact aft_of (w3kB H1.out _ hf))))); refine wpQuiet_nil ?_; rintro w5 ⟨⟨_, hb5⟩, rfl⟩
          go_wp2
          go_ret
          exact ⟨ret_int hE.out, by (repeat' (first | (with_reducible exact Below.refl _ _) | (with_reducible assumption) | (with_reducible refine Below.drew ?_) | (with_reducible refine below_drewN ?_ _) | (with_reducible refine Below.setCell ?_ ?_ _) | (with_reducible refine Below.alloc ?_ ?_ _) | (refine Below.trans ?_ (Below.mono (by with_reducible assumption) ?_)) | omega | (exact Below.size (by with_reducible assumption)) | (simp; done) | (simp; omega)))⟩
        · have H1 := Lib.hid h1
          clear h1
          go_wp2
          refine wp_region_aft (by kernel_rfl) (by kernel_rfl) ?_; (repeat (go_big_quiet_step ((go_at_call 100; exact aft_of (w3kB H1.out _ hf))))); refine wpQuiet_nil ?_; rintro w5 ⟨⟨_, hb5⟩, rfl⟩
          have q0 := hv.below hb5 l00
          have q1 : Below w.heap.size w w5 := by (repeat' (first | (with_reducible exact Below.refl _ _) | (with_reducible assumption) | (with_reducible refine Below.drew ?_) | (with_reducible refine below_drewN ?_ _) | (with_reducible refine Below.setCell ?_ ?_ _) | (with_reducible refine Below.alloc ?_ ?_ _) | (refine Below.trans ?_ (Below.mono (by with_reducible assumption) ?_)) | omega | (exact Below.size (by with_reducible assumption)) | (simp; done) | (simp; omega)))
          clear hc0 hc1 hc2 hc3 hc4 hx hx0 hx1 hx2 hx3 hx4 k0 f0 hbw hv
          go_wp2
          go_roundg (n - (k + 1))
          case measure => omega
          case rel =>
            refine ⟨k + 1, by omega, by go_num, ?_, q1, q0⟩
            show _ = _
            rw [take_snoc hg.out, List.all_append, hI.out]
            simpa using H1.out
      · have hI2 : Hid (l.all (Wl.okKb h) = true) := by
          have := hI.out
          rwa [List.take_of_length_le (by have := hn.out; omega)] at this
        clear hI
        by_cases h8 : n ≤ 8
        · have hE := Lib.hid (Wl.v00 HK.out hI2.out (by have := hn.out; omega))
          go_wp2
          go_ret
          exact ⟨ret_int hE.out, hbw⟩
        · have hE := Lib.hid (Wl.v31 (l := l) HK.out (by rw [show decide (l.length ≤ 8) = false by have := hn.out; simp; omega]; simp))
          go_wp2
          go_ret
          exact ⟨ret_int hE.out, hbw⟩
namespace Dp
def offB (o : Int) : Bool := btw o 0 2
def d8b (d : Ds) : Bool := Pl.ok d.P && (decide (d.P.length ≤ 6) && (decide (d.O.length = d.P.length) && (btw d.u 1 1000 && (decide (Wl.w3V d.h d.l = 0) && d.O.all offB))))
def d8V (d : Ds) : Int := if d8b d = true then 0 else 80
theorem v80 {d : Ds} (k : d8b d = false) : (80 : Int) = d8V d := by
  unfold d8V
  rw [if_neg (by rw [k]; simp)]
theorem v0 {d : Ds} (k : d8b d = true) : (0 : Int) = d8V d := by
  unfold d8V
  rw [if_pos k]
theorem d8_ok {d : Ds} (k : d8V d = 0) : Ok d := by
  unfold d8V at k
  split at k
  · rename_i h
    unfold d8b at h
    simp only [Bool.and_eq_true, decide_eq_true_eq, btw_iff, List.all_eq_true, offB] at h
    obtain ⟨h1, h2, h3, h4, h5, h6⟩ := h
    exact ⟨h1, h2, h3, fun o ho => h6 o ho, h4, Wl.w3V_0 h5⟩
  · omega
end Dp
set_option maxHeartbeats 400000 in
theorem d8withinW (n lo hi : Int) (w : World) :
    Calls Try.prog 64 #[.int .i64 n, .int .i64 lo, .int .i64 hi] w fun e w' => e = .returned (.bool (btw n lo hi)) ∧ w = w' := by
  go_enter Try.func64, Try.ntmps64
  go_wp2_with fail
  refine (rwithinW _ _ _ _).mono ?_
  rintro e w1 ⟨rfl, rfl⟩
  go_wp2
  go_ret
  exact ⟨rfl, rfl⟩
theorem d8wB {n lo hi : Int} {b : Bool} (h : btw n lo hi = b) (w : World) : Calls Try.prog 64 #[.int .i64 n, .int .i64 lo, .int .i64 hi] w fun e w' => e = .returned (.bool b) ∧ w = w' := cPB h (d8withinW n lo hi w)
end Go.Proofs.Ytgmhelclofnpkaa
namespace Go.Proofs.Ytgmhelclofnpkaa
open Go.RowKit

set_option maxRecDepth 100000 in
set_option maxHeartbeats 8000000 in
theorem d8CheckW (d : Ds) (A B C : Option Addr) (cA cB cC : Nat) (w : World) (hA : Rd 2 w A (d.P.map ptrow)) (hB : RdI w B d.O) (hC : Rd 5 w C (d.l.map wkrow)) (hl : d.P.length ≤ 9223372036854775807 ∧ d.O.length ≤ 9223372036854775807 ∧ d.l.length ≤ 9223372036854775807) :
    Calls Try.prog 20 #[dsV A B C cA cB cC d] w fun e w' => e = .returned (.int .i64 (Dp.d8V d)) ∧ Below w.heap.size w w' := by
  obtain ⟨n, hn⟩ : ∃ n, d.P.length = n := ⟨_, rfl⟩
  obtain ⟨k, hk⟩ : ∃ k, d.O.length = k := ⟨_, rfl⟩
  obtain ⟨m, hm⟩ : ∃ m, d.l.length = m := ⟨_, rfl⟩
  have HP := Lib.hid (fun W (q : Rd 2 W A (d.P.map ptrow)) => rCheckE A d.P n cA W q (Lib.hid hn.symm) (by omega))
  have HW := Lib.hid (fun W (q : Rd 5 W C (d.l.map wkrow)) => w3CheckW d.h C d.l m cC W q (Lib.hid hm.symm) (by omega))
  have HA := Lib.hid hA
  have HB := Lib.hid hB
  have HC := Lib.hid hC
  have HN := Lib.hid hn
  have HKK := Lib.hid hk
  unfold dsV
  rw [hn, hk, hm]
  rw [hn, hk, hm] at hl
  obtain ⟨hn1, hk1, hm1⟩ := hl
  have o0 : Own (w.alloc (.cells #[.slice A n cA, .slice B k cB, .int .i64 d.u, .int .i64 d.h.full, .int .i64 d.h.read, .int .i64 d.h.slip, .int .i64 d.h.skew, .int .i64 d.h.circ, .int .i64 d.h.lo, .int .i64 d.h.hi, .int .i64 d.h.wrong, .slice C m cC] 56)) w.heap.size [.slice A n cA, .slice B k cB, .int .i64 d.u, .int .i64 d.h.full, .int .i64 d.h.read, .int .i64 d.h.slip, .int .i64 d.h.skew, .int .i64 d.h.circ, .int .i64 d.h.lo, .int .i64 d.h.hi, .int .i64 d.h.wrong, .slice C m cC] := Own.new' _ _ rfl rfl
  have oB : Below w.heap.size w (w.alloc (.cells #[.slice A n cA, .slice B k cB, .int .i64 d.u, .int .i64 d.h.full, .int .i64 d.h.read, .int .i64 d.h.slip, .int .i64 d.h.skew, .int .i64 d.h.circ, .int .i64 d.h.lo, .int .i64 d.h.hi, .int .i64 d.h.wrong, .slice C m cC] 56)) := by (repeat' (first | (with_reducible exact Below.refl _ _) | (with_reducible assumption) | (with_reducible refine Below.drew ?_) | (with_reducible refine below_drewN ?_ _) | (with_reducible refine Below.setCell ?_ ?_ _) | (with_reducible refine Below.alloc ?_ ?_ _) | (refine Below.trans ?_ (Below.mono (by with_reducible assumption) ?_)) | omega | (exact Below.size (by with_reducible assumption)) | (simp; done) | (simp; omega)))
  have O0 := Lib.hid o0
  clear hA hB hC hn hk hm o0
  cases h0 : Pl.ok d.P
  · have R0 : Hid (Pl.rcv d.P = 20) := (Pl.val20 h0).out.symm
    have hv : Dp.d8V d = 80 := (Dp.v80 (by unfold Dp.d8b; rw [h0]; simp)).symm
    rw [hv]
    clear hv
    clear h0
    obtain ⟨l0, c0, f0⟩ := O0.out
    go_enter Try.func20, Try.ntmps20
    go_wp2_with fail
    refine (cIB R0.out (HP.out _ (HA.out.below oB (Nat.le_refl _)))).mono ?_
    rintro e w1 ⟨rfl, hb1⟩
    have o1 := O0.out.below hb1 O0.out.lt
    have hB1 := oB.trans (hb1.mono oB.size)
    clear O0 l0 c0 f0 hb1 oB
    have O0 := Lib.hid o1
    have oB := hB1
    clear hB1
    obtain ⟨l0, c0, f0⟩ := o1
    go_wp2
    go_ret
    exact ⟨rfl, oB⟩
  · have R0 : Hid (Pl.rcv d.P = 0) := (Pl.val0 h0).out.symm
    have K0 := Lib.hid h0
    clear h0
    by_cases h1 : n ≤ 6
    case neg =>
      have hv : Dp.d8V d = 80 := (Dp.v80 (by unfold Dp.d8b; rw [K0.out]; rw [show decide (d.P.length ≤ 6) = false by have := HN.out; simp; omega]; simp)).symm
      rw [hv]
      clear hv
      obtain ⟨l0, c0, f0⟩ := O0.out
      go_enter Try.func20, Try.ntmps20
      go_wp2_with fail
      refine (cIB R0.out (HP.out _ (HA.out.below oB (Nat.le_refl _)))).mono ?_
      rintro e w1 ⟨rfl, hb1⟩
      have o1 := O0.out.below hb1 O0.out.lt
      have hB1 := oB.trans (hb1.mono oB.size)
      clear O0 l0 c0 f0 hb1 oB
      have O0 := Lib.hid o1
      have oB := hB1
      clear hB1
      obtain ⟨l0, c0, f0⟩ := o1
      go_wp2
      go_ret
      exact ⟨rfl, oB⟩
    by_cases h2 : k = n
    case neg =>
      have hv : Dp.d8V d = 80 := (Dp.v80 (by unfold Dp.d8b; rw [K0.out]; rw [show decide (d.P.length ≤ 6) = true by have := HN.out; simp; omega]; rw [show decide (d.O.length = d.P.length) = false by have := HN.out; have := HKK.out; simp; omega]; simp)).symm
      rw [hv]
      clear hv
      obtain ⟨l0, c0, f0⟩ := O0.out
      go_enter Try.func20, Try.ntmps20
      go_wp2_with fail
      refine (cIB R0.out (HP.out _ (HA.out.below oB (Nat.le_refl _)))).mono ?_
      rintro e w1 ⟨rfl, hb1⟩
      have o1 := O0.out.below hb1 O0.out.lt
      have hB1 := oB.trans (hb1.mono oB.size)
      clear O0 l0 c0 f0 hb1 oB
      have O0 := Lib.hid o1
      have oB := hB1
      clear hB1
      obtain ⟨l0, c0, f0⟩ := o1
      go_wp2
      go_ret
      exact ⟨rfl, oB⟩
    subst h2
    cases h3 : btw d.u 1 1000
    · have R3 := Lib.hid h3
      clear h3
      have hv : Dp.d8V d = 80 := (Dp.v80 (by unfold Dp.d8b; rw [K0.out]; rw [show decide (d.P.length ≤ 6) = true by have := HN.out; simp; omega]; rw [show decide (d.O.length = d.P.length) = true by have := HN.out; have := HKK.out; simp; omega]; rw [R3.out]; simp)).symm
      rw [hv]
      clear hv
      obtain ⟨l0, c0, f0⟩ := O0.out
      go_enter Try.func20, Try.ntmps20
      go_wp2_with fail
      refine (cIB R0.out (HP.out _ (HA.out.below oB (Nat.le_refl _)))).mono ?_
      rintro e w1 ⟨rfl, hb1⟩
      have o1 := O0.out.below hb1 O0.out.lt
      have hB1 := oB.trans (hb1.mono oB.size)
      clear O0 l0 c0 f0 hb1 oB
      have O0 := Lib.hid o1
      have oB := hB1
      clear hB1
      obtain ⟨l0, c0, f0⟩ := o1
      go_wp2_with fail
      refine (d8wB R3.out _).mono ?_
      rintro e w1 ⟨rfl, rfl⟩
      go_wp2
      go_ret
      exact ⟨rfl, oB⟩
    have R3 := Lib.hid h3
    clear h3
    obtain ⟨v, h4⟩ : ∃ v, Wl.w3V d.h d.l = v := ⟨_, rfl⟩
    have R4 := Lib.hid h4
    clear h4
    by_cases h4 : v = 0
    case neg =>
      have hv : Dp.d8V d = 80 := (Dp.v80 (by unfold Dp.d8b; rw [K0.out]; rw [show decide (d.P.length ≤ 6) = true by have := HN.out; simp; omega]; rw [show decide (d.O.length = d.P.length) = true by have := HN.out; have := HKK.out; simp; omega]; rw [R3.out]; rw [show decide (Wl.w3V d.h d.l = 0) = false by rw [R4.out]; simpa using h4]; simp)).symm
      rw [hv]
      clear hv
      have hne : (v != 0) = true := by simpa using h4
      obtain ⟨l0, c0, f0⟩ := O0.out
      go_enter Try.func20, Try.ntmps20
      go_wp2_with fail
      refine (cIB R0.out (HP.out _ (HA.out.below oB (Nat.le_refl _)))).mono ?_
      rintro e w1 ⟨rfl, hb1⟩
      have o1 := O0.out.below hb1 O0.out.lt
      have hB1 := oB.trans (hb1.mono oB.size)
      clear O0 l0 c0 f0 hb1 oB
      have O0 := Lib.hid o1
      have oB := hB1
      clear hB1
      obtain ⟨l0, c0, f0⟩ := o1
      go_wp2_with fail
      refine (d8wB R3.out _).mono ?_
      rintro e w1 ⟨rfl, rfl⟩
      go_wp2_with fail
      refine (cIB R4.out (HW.out _ (HC.out.below oB (Nat.le_refl _)))).mono ?_
      rintro e w1 ⟨rfl, hb1⟩
      have o1 := O0.out.below hb1 O0.out.lt
      have hB1 := oB.trans (hb1.mono oB.size)
      clear O0 l0 c0 f0 hb1 oB
      have O0 := Lib.hid o1
      have oB := hB1
      clear hB1
      obtain ⟨l0, c0, f0⟩ := o1
      go_wp2
      go_ret
      exact ⟨rfl, oB⟩
    subst h4
    obtain ⟨l0, c0, f0⟩ := O0.out
    go_enter Try.func20, Try.ntmps20
    go_wp2_with fail
    refine (cIB R0.out (HP.out _ (HA.out.below oB (Nat.le_refl _)))).mono ?_
    rintro e w1 ⟨rfl, hb1⟩
    have o1 := O0.out.below hb1 O0.out.lt
    have hB1 := oB.trans (hb1.mono oB.size)
    clear O0 l0 c0 f0 hb1 oB
    have O0 := Lib.hid o1
    have oB := hB1
    clear hB1
    obtain ⟨l0, c0, f0⟩ := o1
    go_wp2_with fail
    refine (d8wB R3.out _).mono ?_
    rintro e w1 ⟨rfl, rfl⟩
    go_wp2_with fail
    refine (cIB R4.out (HW.out _ (HC.out.below oB (Nat.le_refl _)))).mono ?_
    rintro e w1 ⟨rfl, hb1⟩
    have o1 := O0.out.below hb1 O0.out.lt
    have hB1 := oB.trans (hb1.mono oB.size)
    clear O0 l0 c0 f0 hb1 oB
    have O0 := Lib.hid o1
    have oB := hB1
    clear hB1
    obtain ⟨l0, c0, f0⟩ := o1
    go_wp2_with fail
    go_loopg [3] k (fun K i wr => ∃ j : Nat, K + j = k ∧ i = .int .i64 j ∧ Hid ((d.O.take j).all Dp.offB = true) ∧ Below w.heap.size w wr ∧ Own wr w.heap.size [.slice A k cA, .slice B k cB, .int .i64 d.u, .int .i64 d.h.full, .int .i64 d.h.read, .int .i64 d.h.slip, .int .i64 d.h.skew, .int .i64 d.h.circ, .int .i64 d.h.lo, .int .i64 d.h.hi, .int .i64 d.h.wrong, .slice C m cC])
    case atStart => exact ⟨0, rfl, rfl, rfl, oB, O0.out⟩
    case round =>
      clear oB O0 l0 c0 f0
      obtain ⟨j, hj, rfl, hI, hbw, hv⟩ := hrel
      have HV := Lib.hid hv
      obtain ⟨l0, c0, f0⟩ := hv
      by_cases hlt : j < k
      · obtain ⟨g, hg⟩ : ∃ g, Hid (d.O[j]? = some g) := ⟨d.O[j]'(by have := HKK.out; omega), by simp [Hid]⟩
        obtain ⟨b, off, rfl, hb, hc0⟩ := RdI.elem (show RdI wr B d.O from HB.out.below hbw (Nat.le_refl _)) hg.out
        cases h5 : btw g 0 2
        · have hE : Hid ((80 : Int) = Dp.d8V d) := Dp.v80 (by unfold Dp.d8b; rw [K0.out]; rw [show decide (d.P.length ≤ 6) = true by have := HN.out; simp; omega]; rw [show decide (d.O.length = d.P.length) = true by have := HN.out; have := HKK.out; simp; omega]; rw [R3.out]; rw [show decide (Wl.w3V d.h d.l = 0) = true by rw [R4.out]; rfl]; rw [List.all_eq_false.2 ⟨g, List.mem_of_getElem? hg.out, by unfold Dp.offB; rw [h5]; simp⟩]; simp)
          have R5 := Lib.hid h5
          clear h5
          go_wp2_with fail
          refine (d8wB R5.out _).mono ?_
          rintro e w1 ⟨rfl, rfl⟩
          go_wp2
          go_ret
          exact ⟨ret_int hE.out, hbw⟩
        · have R5 := Lib.hid h5
          clear h5
          go_wp2_with fail
          refine (d8wB R5.out _).mono ?_
          rintro e w1 ⟨rfl, rfl⟩
          go_wp2
          go_roundg (k - (j + 1))
          case measure => omega
          case rel =>
            refine ⟨j + 1, by omega, by go_num, ?_, hbw, HV.out⟩
            show _ = _
            rw [take_snoc hg.out, List.all_append, hI.out]
            simpa [Dp.offB] using R5.out
      · have hE : Hid ((0 : Int) = Dp.d8V d) := Dp.v0 (by
          have h5 := hI.out
          rw [List.take_of_length_le (by have := HKK.out; omega)] at h5
          unfold Dp.d8b; rw [K0.out]; rw [show decide (d.P.length ≤ 6) = true by have := HN.out; simp; omega]; rw [show decide (d.O.length = d.P.length) = true by have := HN.out; have := HKK.out; simp; omega]; rw [R3.out]; rw [show decide (Wl.w3V d.h d.l = 0) = true by rw [R4.out]; rfl]; rw [h5]; rfl)
        go_wp2
        go_ret
        exact ⟨ret_int hE.out, hbw⟩
end Go.Proofs.Ytgmhelclofnpkaa
namespace Go.Proofs.Ytgmhelclofnpkaa
open Go.RowKit

set_option maxRecDepth 100000 in
set_option maxHeartbeats 8000000 in
theorem far08W (d : Ds) (A B C : Option Addr) (cA cB cC : Nat) (w : World) (hA : Rd 2 w A (d.P.map ptrow)) (hB : RdI w B d.O) (hC : Rd 5 w C (d.l.map wkrow)) (hl : d.P.length ≤ 9223372036854775807 ∧ d.O.length ≤ 9223372036854775807 ∧ d.l.length ≤ 9223372036854775807) :
    Calls Try.prog 19 #[dsV A B C cA cB cC d] w fun e w' => ∃ v : Value, e = .returned v ∧ Hid (v = .bool true ∨ v = .bool false ∧ (Dp.d8V d = 0 → d.h.hi - d.h.lo < 200)) ∧ Below w.heap.size w w' := by
  obtain ⟨n, hn⟩ : ∃ n, d.P.length = n := ⟨_, rfl⟩
  obtain ⟨k, hk⟩ : ∃ k, d.O.length = k := ⟨_, rfl⟩
  obtain ⟨m, hm⟩ : ∃ m, d.l.length = m := ⟨_, rfl⟩
  have HK := Lib.hid (fun W (q1 : Rd 2 W A (d.P.map ptrow)) (q2 : RdI W B d.O) (q3 : Rd 5 W C (d.l.map wkrow)) => d8CheckW d A B C cA cB cC W q1 q2 q3 hl)
  have HA := Lib.hid hA
  have HB := Lib.hid hB
  have HC := Lib.hid hC
  have HN := Lib.hid hn
  have HKK := Lib.hid hk
  unfold dsV at HK ⊢
  rw [hn, hk, hm] at HK ⊢
  rw [hn, hk, hm] at hl
  obtain ⟨hn1, hk1, hm1⟩ := hl
  have o0 : Own (w.alloc (.cells #[.slice A n cA, .slice B k cB, .int .i64 d.u, .int .i64 d.h.full, .int .i64 d.h.read, .int .i64 d.h.slip, .int .i64 d.h.skew, .int .i64 d.h.circ, .int .i64 d.h.lo, .int .i64 d.h.hi, .int .i64 d.h.wrong, .slice C m cC] 56)) w.heap.size [.slice A n cA, .slice B k cB, .int .i64 d.u, .int .i64 d.h.full, .int .i64 d.h.read, .int .i64 d.h.slip, .int .i64 d.h.skew, .int .i64 d.h.circ, .int .i64 d.h.lo, .int .i64 d.h.hi, .int .i64 d.h.wrong, .slice C m cC] := Own.new' _ _ rfl rfl
  have oB : Below w.heap.size w (w.alloc (.cells #[.slice A n cA, .slice B k cB, .int .i64 d.u, .int .i64 d.h.full, .int .i64 d.h.read, .int .i64 d.h.slip, .int .i64 d.h.skew, .int .i64 d.h.circ, .int .i64 d.h.lo, .int .i64 d.h.hi, .int .i64 d.h.wrong, .slice C m cC] 56)) := by (repeat' (first | (with_reducible exact Below.refl _ _) | (with_reducible assumption) | (with_reducible refine Below.drew ?_) | (with_reducible refine below_drewN ?_ _) | (with_reducible refine Below.setCell ?_ ?_ _) | (with_reducible refine Below.alloc ?_ ?_ _) | (refine Below.trans ?_ (Below.mono (by with_reducible assumption) ?_)) | omega | (exact Below.size (by with_reducible assumption)) | (simp; done) | (simp; omega)))
  have O0 := Lib.hid o0
  clear hA hB hC hn hk hm
  obtain ⟨l0, c0, f0⟩ := o0
  obtain ⟨v, h4⟩ : ∃ v, Dp.d8V d = v := ⟨_, rfl⟩
  have R4 := Lib.hid h4
  clear h4
  by_cases hs : n ≤ 40 ∧ k ≤ 40 ∧ m ≤ 40
  case neg =>
    go_enter Try.func19, Try.ntmps19
    go_wp2
    all_goals first | omega | skip
    all_goals go_ret
    all_goals exact ⟨_, rfl, Or.inl rfl, oB⟩
  obtain ⟨hs1, hs2, hs3⟩ := hs
  by_cases h4 : v = 0
  case neg =>
    have hne : (v != 0) = true := by simpa using h4
    go_enter Try.func19, Try.ntmps19
    go_wp2_with fail
    refine (cIB R4.out (HK.out _ (HA.out.below oB (Nat.le_refl _)) (show RdI _ B d.O from HB.out.below oB (Nat.le_refl _)) (HC.out.below oB (Nat.le_refl _)))).mono ?_
    rintro e w1 ⟨rfl, hb1⟩
    go_wp2
    go_ret
    exact ⟨_, rfl, Or.inr ⟨rfl, fun e => (h4 (R4.out.symm.trans e)).elim⟩, oB.trans (hb1.mono oB.size)⟩
  subst h4
  have HD := Lib.hid (Dp.d8_ok R4.out)
  have hh := HD.out.wh.k
  have hlo := hh.lo
  have hhi := hh.hi
  have hcirc := hh.circ
  have hwr : IntKind.i64.wrap (d.h.hi - d.h.lo) = d.h.hi - d.h.lo := IntWalk.i64_in _ (by omega)
  clear hh hcirc
  go_enter Try.func19, Try.ntmps19
  go_wp2_with fail
  refine (cIB R4.out (HK.out _ (HA.out.below oB (Nat.le_refl _)) (show RdI _ B d.O from HB.out.below oB (Nat.le_refl _)) (HC.out.below oB (Nat.le_refl _)))).mono ?_
  rintro e w1 ⟨rfl, hb1⟩
  have o1 := O0.out.below hb1 O0.out.lt
  have hB1 := oB.trans (hb1.mono oB.size)
  clear O0 l0 c0 f0 hb1 oB
  go_wp2_with fail
  go_loopg [3, 4] k (fun K x i wr => ∃ (j : Nat) (y : Int), K + j = k ∧ x = .int .i64 y ∧ i = .int .i64 j ∧ (1 ≤ y ∧ y ≤ 750) ∧ Below w.heap.size w wr ∧ Own wr w.heap.size [.slice A n cA, .slice B k cB, .int .i64 d.u, .int .i64 d.h.full, .int .i64 d.h.read, .int .i64 d.h.slip, .int .i64 d.h.skew, .int .i64 d.h.circ, .int .i64 d.h.lo, .int .i64 d.h.hi, .int .i64 d.h.wrong, .slice C m cC])
  case atStart => exact ⟨0, 1, rfl, rfl, rfl, by omega, hB1, o1⟩
  case round =>
    clear hB1 o1
    obtain ⟨j, y, hj, rfl, rfl, hy, hbw, hv⟩ := hrel
    have HV := Lib.hid hv
    obtain ⟨l0, c0, f0⟩ := hv
    by_cases hlt : j < k
    · obtain ⟨g, hg⟩ : ∃ g, Hid (d.O[j]? = some g) := ⟨d.O[j]'(by have := HKK.out; omega), by simp [Hid]⟩
      obtain ⟨b, off, rfl, hb, hc0⟩ := RdI.elem (show RdI wr B d.O from HB.out.below hbw (Nat.le_refl _)) hg.out
      have hg2 := HD.out.off g (List.mem_of_getElem? hg.out)
      have hg3 : g = 0 ∨ g = 1 ∨ g = 2 := by omega
      have hw1 : IntKind.i64.wrap (2 * g) = 2 * g := IntWalk.i64_in _ (by omega)
      have hw2 : IntKind.i64.wrap (2 * g + 1) = 2 * g + 1 := IntWalk.i64_in _ (by omega)
      have hw3 : IntKind.i64.wrap ((2 * g + 1) * (2 * g + 1)) = (2 * g + 1) * (2 * g + 1) := IntWalk.i64_in _ (by rcases hg3 with rfl | rfl | rfl <;> omega)
      obtain ⟨y2, hy2⟩ : ∃ y2, y * ((2 * g + 1) * (2 * g + 1)) = y2 := ⟨_, rfl⟩
      have hb2 : 1 ≤ y2 ∧ y2 ≤ 18750 := by
        subst hy2
        rcases hg3 with rfl | rfl | rfl <;> omega
      have hw4 : IntKind.i64.wrap (y * ((2 * g + 1) * (2 * g + 1))) = y2 := by
        rw [hy2]; exact IntWalk.i64_in _ (by omega)
      clear hy2 hg2 hg3
      by_cases h7 : 750 < y2
      · go_wp2
        go_quiet (fail)
        go_wp2
        go_ret
        exact ⟨_, rfl, Or.inl rfl, by (repeat' (first | (with_reducible exact Below.refl _ _) | (with_reducible assumption) | (with_reducible refine Below.drew ?_) | (with_reducible refine below_drewN ?_ _) | (with_reducible refine Below.setCell ?_ ?_ _) | (with_reducible refine Below.alloc ?_ ?_ _) | (refine Below.trans ?_ (Below.mono (by with_reducible assumption) ?_)) | omega | (exact Below.size (by with_reducible assumption)) | (simp; done) | (simp; omega)))⟩
      · have HBW := Lib.hid hbw
        go_wp2
        go_quiet (fail)
        go_wp2
        go_roundg (k - (j + 1))
        case measure => omega
        case rel => exact ⟨j + 1, y2, by omega, rfl, by go_num, by omega, by (repeat' (first | (with_reducible exact Below.refl _ _) | (with_reducible assumption) | (with_reducible refine Below.drew ?_) | (with_reducible refine below_drewN ?_ _) | (with_reducible refine Below.setCell ?_ ?_ _) | (with_reducible refine Below.alloc ?_ ?_ _) | (refine Below.trans ?_ (Below.mono (by with_reducible assumption) ?_)) | omega | (exact Below.size (by with_reducible assumption)) | (simp; done) | (simp; omega))), by have hv := HV.out; first | exact hv | exact hv.drew | (repeat' (first | (with_reducible assumption) | (with_reducible exact Own.mk (by with_reducible assumption) (by with_reducible assumption) (by with_reducible assumption)) | (with_reducible refine Own.new' _ _ (by first | rfl | (simp; done)) rfl) | (with_reducible refine Own.drew ?_) | (with_reducible refine Own.drewN ?_ _) | (with_reducible refine Own.alloc ?_ _) | (with_reducible refine Own.setOther ?_ ?_ _) | (refine Own.below ?_ (by with_reducible assumption) ?_) | omega | (simp; done) | (simp; omega)))⟩
    · skip
      by_cases h1 : 2 < d.h.skew
      · go_wp2
        go_ret
        exact ⟨_, rfl, Or.inl rfl, hbw⟩
      by_cases h2 : 4 < d.h.slip
      · go_wp2
        go_ret
        exact ⟨_, rfl, Or.inl rfl, hbw⟩
      by_cases h3 : 1 < d.h.read
      · go_wp2
        go_ret
        exact ⟨_, rfl, Or.inl rfl, hbw⟩
      by_cases h5 : 4 < m
      · go_wp2
        go_ret
        exact ⟨_, rfl, Or.inl rfl, hbw⟩
      by_cases h6 : 200 ≤ d.h.hi - d.h.lo
      · go_wp2
        go_ret
        exact ⟨_, rfl, Or.inl rfl, hbw⟩
      · go_wp2
        go_ret
        exact ⟨_, rfl, Or.inr (by show Value.bool (decide ((4 : Int) < (m : Int))) = _; rw [decide_eq_false (by omega)]), hbw⟩
end Go.Proofs.Ytgmhelclofnpkaa
