/- Walks: the reference's tests of tracks, walks and elbows. -/
import Derived.Test.YtgmhelclofnpkaaGreatInA
import Derived.Test.YtgmhelclofnpkaaGreatQa
import Derived.Test.YtgmhelclofnpkaaGreatInB
namespace Go.Proofs.YtgmhelclofnpkaaGreat
open Go.RowKit

namespace Tk
def okPts (ps : List P2) : Bool := ps.all Pl.isP && btw ps.length 1 8
def okTb (T : List P2) (c lo hi : Int) : Bool := okPts T && (btw c 0 1 && ((decide (c = 0) || decide (3 ≤ T.length)) && (btw lo 0 hi && decide (hi ≤ 320000))))
def chk (T P : List P2) (c lo hi : Int) : Int := if okTb T c lo hi = true then (if okPts P = true then 0 else 51) else 50
theorem okT_of {T : List P2} {c lo hi : Int} (h : okTb T c lo hi = true) : OkT T c lo hi := by
  unfold okTb okPts at h
  simp only [Bool.and_eq_true, Bool.or_eq_true, decide_eq_true_eq, btw_iff] at h
  exact ⟨by omega, by omega, by omega, h.1.1, by omega⟩
theorem chk_0 {T P : List P2} {c lo hi : Int} (h : chk T P c lo hi = 0) : OkT T c lo hi ∧ P.all Pl.isP = true ∧ 1 ≤ P.length ∧ P.length ≤ 8 := by
  unfold chk at h
  by_cases h1 : okTb T c lo hi = true
  · rw [if_pos h1] at h
    by_cases h2 : okPts P = true
    · unfold okPts at h2
      simp only [Bool.and_eq_true, btw_iff] at h2
      exact ⟨okT_of h1, h2.1, by omega, by omega⟩
    · rw [if_neg h2] at h; omega
  · rw [if_neg h1] at h; omega
end Tk
set_option maxHeartbeats 400000 in
theorem r1WithinW (n lo hi : Int) (w : World) :
    Calls Tryz.prog 39 #[.int .i64 n, .int .i64 lo, .int .i64 hi] w fun e w' => e = .returned (.bool (btw n lo hi)) ∧ w = w' := by
  go_enter Tryz.func39, Tryz.ntmps39
  go_wp2
  all_goals go_ret
  all_goals exact ⟨ret_bool (by unfold btw; (first | rfl | (rw [Bool.eq_iff_iff]; simp; done) | (rw [Bool.eq_iff_iff]; simp; omega))), rfl⟩
set_option maxHeartbeats 400000 in
theorem q5withinW (n lo hi : Int) (w : World) :
    Calls Tryz.prog 21 #[.int .i64 n, .int .i64 lo, .int .i64 hi] w fun e w' => e = .returned (.bool (btw n lo hi)) ∧ w = w' := by
  go_enter Tryz.func21, Tryz.ntmps21
  go_wp2_with fail
  refine (r1WithinW _ _ _ _).mono ?_
  rintro e w1 ⟨rfl, rfl⟩
  go_wp2
  go_ret
  exact ⟨rfl, rfl⟩
theorem q5wB {n lo hi : Int} {b : Bool} (h : Hid (btw n lo hi = b)) (w : World) : Calls Tryz.prog 21 #[.int .i64 n, .int .i64 lo, .int .i64 hi] w fun e w' => e = .returned (.bool b) ∧ w = w' := cPB h.out (q5withinW n lo hi w)
set_option maxHeartbeats 400000 in
theorem q5IsPointW (x y : Int) (w : World) :
    Calls Tryz.prog 61 #[.agg #[.int .i64 x, .int .i64 y]] w fun e w' => e = .returned (.bool (Pl.isP (x, y))) ∧ Below w.heap.size w w' := by
  cases h : btw x (-200) 200
  · rw [isP_f h]
    have H := Lib.hid h
    clear h
    go_enter Tryz.func61, Tryz.ntmps61
    go_wp2_with fail
    refine (q5wB H _).mono ?_
    rintro e w1 ⟨rfl, rfl⟩
    go_wp2
    go_ret
    exact ⟨rfl, by (repeat' (first | (with_reducible exact Below.refl _ _) | (with_reducible assumption) | (with_reducible refine Below.drew ?_) | (with_reducible refine below_drewN ?_ _) | (with_reducible refine Below.setCell ?_ ?_ _) | (with_reducible refine Below.alloc ?_ ?_ _) | (refine Below.trans ?_ (Below.mono (by with_reducible assumption) ?_)) | omega | (exact Below.size (by with_reducible assumption)) | (simp; done) | (simp; omega)))⟩
  · rw [isP_t h]
    have H := Lib.hid h
    clear h
    go_enter Tryz.func61, Tryz.ntmps61
    go_wp2_with fail
    refine (q5wB H _).mono ?_
    rintro e w1 ⟨rfl, rfl⟩
    go_wp2_with fail
    refine (q5withinW _ _ _ _).mono ?_
    rintro e w1 ⟨rfl, rfl⟩
    go_wp2
    go_ret
    exact ⟨rfl, by (repeat' (first | (with_reducible exact Below.refl _ _) | (with_reducible assumption) | (with_reducible refine Below.drew ?_) | (with_reducible refine below_drewN ?_ _) | (with_reducible refine Below.setCell ?_ ?_ _) | (with_reducible refine Below.alloc ?_ ?_ _) | (refine Below.trans ?_ (Below.mono (by with_reducible assumption) ?_)) | omega | (exact Below.size (by with_reducible assumption)) | (simp; done) | (simp; omega)))⟩
theorem okPts_no {ps : List P2} {k : Nat} {g : P2} (h : ps[k]? = some g) (hs : Pl.isP g = false) : Tk.okPts ps = false := by
  unfold Tk.okPts
  have : ps.all Pl.isP = false := by
    cases e : ps.all Pl.isP
    · rfl
    · rw [List.all_eq_true.1 e g (List.mem_of_getElem? h)] at hs; cases hs
  rw [this, Bool.false_and]
set_option maxHeartbeats 1000000 in
theorem q5arePointsW (A : Option Addr) (ps : List P2) (n cap : Nat) (w : World) (hA : Rd 2 w A (ps.map ptrow)) (hn : Hid (n = ps.length)) (hlen : n ≤ 9223372036854775807) :
    Calls Tryz.prog 36 #[.slice A n cap, .int .i64 8] w fun e w' => e = .returned (.bool (Tk.okPts ps)) ∧ Below w.heap.size w w' := by
  have HA := Lib.hid hA
  clear hA
  go_enter Tryz.func36, Tryz.ntmps36
  go_wp2
  go_loopw [5] (fun i wr => ∃ k : Nat, k ≤ n ∧ i = .int .i64 k ∧ Hid ((ps.take k).all Pl.isP = true) ∧ Below w.heap.size w wr) (fun i _ => n - (RowKit.intOf i).toNat)
  case atStart => exact ⟨0, Nat.zero_le _, rfl, by simp [Hid], Below.refl _ _⟩
  case round =>
    obtain ⟨k, hk', rfl, hal, hbw⟩ := hrel
    by_cases hlt : k < n
    · obtain ⟨g, hg⟩ : ∃ g, Hid (ps[k]? = some g) := ⟨ps[k]'(by have := hn.out; omega), by simp [Hid]⟩
      obtain ⟨b, off, rfl, hb, hc0, hc1⟩ := rd_p2 (HA.out.below hbw (Nat.le_refl _)) hg.out
      cases hs : Pl.isP (g.1, g.2)
      · have hno := Lib.hid (okPts_no hg.out hs)
        have HP := Lib.hid (fun W => cBB hs (q5IsPointW g.1 g.2 W))
        clear hs
        go_wp2_with fail
        refine (HP.out _).mono ?_
        rintro e w1 ⟨rfl, hb1⟩
        go_wp2
        go_ret
        exact ⟨ret_bool hno.out.symm, by (repeat' (first | (with_reducible exact Below.refl _ _) | (with_reducible assumption) | (with_reducible refine Below.drew ?_) | (with_reducible refine below_drewN ?_ _) | (with_reducible refine Below.setCell ?_ ?_ _) | (with_reducible refine Below.alloc ?_ ?_ _) | (refine Below.trans ?_ (Below.mono (by with_reducible assumption) ?_)) | omega | (exact Below.size (by with_reducible assumption)) | (simp; done) | (simp; omega)))⟩
      · have HP := Lib.hid (fun W => cBB hs (q5IsPointW g.1 g.2 W))
        have hs' := Lib.hid hs
        clear hs
        go_wp2_with fail
        refine (HP.out _).mono ?_
        rintro e w1 ⟨rfl, hb1⟩
        clear hc0 hc1 hb
        go_wp2
        go_roundw
        case rel =>
          refine ⟨k + 1, by omega, by go_num, ?_, by (repeat' (first | (with_reducible exact Below.refl _ _) | (with_reducible assumption) | (with_reducible refine Below.drew ?_) | (with_reducible refine below_drewN ?_ _) | (with_reducible refine Below.setCell ?_ ?_ _) | (with_reducible refine Below.alloc ?_ ?_ _) | (refine Below.trans ?_ (Below.mono (by with_reducible assumption) ?_)) | omega | (exact Below.size (by with_reducible assumption)) | (simp; done) | (simp; omega)))⟩
          show (ps.take (k + 1)).all _ = true
          rw [take_snoc hg.out, List.all_append, hal.out]
          simp only [List.all_cons, List.all_nil, Bool.and_true, Bool.true_and]
          exact hs'.out
        case measure => simp only [RowKit.intOf]; omega
    · have hfin : Hid (Tk.okPts ps = btw n 1 8) := by
        have h := hal.out
        rw [List.take_of_length_le (by have := hn.out; omega)] at h
        show Tk.okPts ps = _
        unfold Tk.okPts
        rw [h, Bool.true_and, hn.out]
      go_wp2_with fail
      refine (q5withinW _ _ _ _).mono ?_
      rintro e w1 ⟨rfl, rfl⟩
      go_wp2
      go_ret
      exact ⟨ret_bool hfin.out.symm, hbw⟩
theorem q5pB {ps : List P2} {b : Bool} (h : Hid (Tk.okPts ps = b)) (A : Option Addr) (n cap : Nat) (w : World) (hA : Rd 2 w A (ps.map ptrow)) (hn : Hid (n = ps.length)) (hlen : n ≤ 9223372036854775807) :
    Calls Tryz.prog 36 #[.slice A n cap, .int .i64 8] w fun e w' => e = .returned (.bool b) ∧ Below w.heap.size w w' := cBB h.out (q5arePointsW A ps n cap w hA hn hlen)
set_option maxHeartbeats 1000000 in
theorem q5IsWalkW (A : Option Addr) (ps : List P2) (n cap : Nat) (w : World) (hA : Rd 2 w A (ps.map ptrow)) (hn : Hid (n = ps.length)) (hlen : n ≤ 9223372036854775807) :
    Calls Tryz.prog 15 #[.slice A n cap] w fun e w' => e = .returned (.bool (Tk.okPts ps)) ∧ Below w.heap.size w w' := by
  have HA := Lib.hid hA
  clear hA
  go_enter Tryz.func15, Tryz.ntmps15
  go_wp2_with fail
  refine (q5arePointsW A ps n cap _ HA.out hn hlen).mono ?_
  rintro e w1 ⟨rfl, hb1⟩
  go_wp2
  go_ret
  exact ⟨rfl, hb1⟩
set_option maxHeartbeats 8000000 in
theorem q5isTrackW (A : Option Addr) (T : List P2) (n cap : Nat) (c lo hi : Int) (w : World) (hA : Rd 2 w A (T.map ptrow)) (hn : Hid (n = T.length)) (hlen : n ≤ 9223372036854775807) :
    Calls Tryz.prog 14 #[tkV A n cap c lo hi] w fun e w' => e = .returned (.bool (Tk.okTb T c lo hi)) ∧ Below w.heap.size w w' := by
  have HA := Lib.hid hA
  have o0 : Own (w.alloc (.cells #[.slice A n cap, .int .i64 c, .int .i64 lo, .int .i64 hi] 26)) w.heap.size (tkC A n cap c lo hi) := Own.new' _ _ rfl rfl
  have oB : Below w.heap.size w (w.alloc (.cells #[.slice A n cap, .int .i64 c, .int .i64 lo, .int .i64 hi] 26)) := by (repeat' (first | (with_reducible exact Below.refl _ _) | (with_reducible assumption) | (with_reducible refine Below.drew ?_) | (with_reducible refine below_drewN ?_ _) | (with_reducible refine Below.setCell ?_ ?_ _) | (with_reducible refine Below.alloc ?_ ?_ _) | (refine Below.trans ?_ (Below.mono (by with_reducible assumption) ?_)) | omega | (exact Below.size (by with_reducible assumption)) | (simp; done) | (simp; omega)))
  clear hA
  have hdef : Tk.okTb T c lo hi = (Tk.okPts T && (btw c 0 1 && ((decide (c = 0) || decide (3 ≤ n)) && (btw lo 0 hi && decide (hi ≤ 320000))))) := by unfold Tk.okTb; rw [hn.out]
  rw [hdef]
  clear hdef
  cases h0 : Tk.okPts T
  · replace h0 := Lib.hid h0
    go_enter Tryz.func14, Tryz.ntmps14
    go_wp2_with fail
    refine (q5pB h0 A n cap _ (HA.out.below oB (Nat.le_refl _)) hn hlen).mono ?_
    rintro e w1 ⟨rfl, hb1⟩
    have o1 := o0.below hb1 o0.lt
    have hB1 := oB.trans (hb1.mono oB.size)
    clear hb1 o0 oB
    obtain ⟨l1, c1, f1⟩ := o1
    go_wp2
    all_goals go_ret
    all_goals exact ⟨ret_bool (by simp), hB1⟩
  · replace h0 := Lib.hid h0
    cases h1 : btw c 0 1
    · replace h1 := Lib.hid h1
      go_enter Tryz.func14, Tryz.ntmps14
      go_wp2_with fail
      refine (q5pB h0 A n cap _ (HA.out.below oB (Nat.le_refl _)) hn hlen).mono ?_
      rintro e w1 ⟨rfl, hb1⟩
      have o1 := o0.below hb1 o0.lt
      have hB1 := oB.trans (hb1.mono oB.size)
      clear hb1 o0 oB
      obtain ⟨l1, c1, f1⟩ := o1
      go_wp2_with fail
      refine (q5wB h1 _).mono ?_
      rintro e w2 ⟨rfl, rfl⟩
      go_wp2
      all_goals go_ret
      all_goals exact ⟨ret_bool (by simp), hB1⟩
    · replace h1 := Lib.hid h1
      by_cases hc : c = 0
      · subst hc
        cases h3 : btw lo 0 hi
        · replace h3 := Lib.hid h3
          go_enter Tryz.func14, Tryz.ntmps14
          go_wp2_with fail
          refine (q5pB h0 A n cap _ (HA.out.below oB (Nat.le_refl _)) hn hlen).mono ?_
          rintro e w1 ⟨rfl, hb1⟩
          have o1 := o0.below hb1 o0.lt
          have hB1 := oB.trans (hb1.mono oB.size)
          clear hb1 o0 oB
          obtain ⟨l1, c1, f1⟩ := o1
          go_wp2_with fail
          refine (q5wB h1 _).mono ?_
          rintro e w2 ⟨rfl, rfl⟩
          go_wp2_with fail
          refine (q5wB h3 _).mono ?_
          rintro e w2 ⟨rfl, rfl⟩
          go_wp2
          all_goals go_ret
          all_goals exact ⟨ret_bool (by simp), hB1⟩
        · replace h3 := Lib.hid h3
          go_enter Tryz.func14, Tryz.ntmps14
          go_wp2_with fail
          refine (q5pB h0 A n cap _ (HA.out.below oB (Nat.le_refl _)) hn hlen).mono ?_
          rintro e w1 ⟨rfl, hb1⟩
          have o1 := o0.below hb1 o0.lt
          have hB1 := oB.trans (hb1.mono oB.size)
          clear hb1 o0 oB
          obtain ⟨l1, c1, f1⟩ := o1
          go_wp2_with fail
          refine (q5wB h1 _).mono ?_
          rintro e w2 ⟨rfl, rfl⟩
          go_wp2_with fail
          refine (q5wB h3 _).mono ?_
          rintro e w2 ⟨rfl, rfl⟩
          go_wp2
          all_goals go_ret
          all_goals exact ⟨ret_bool (by (first | rfl | (rw [Bool.eq_iff_iff]; simp; done) | (rw [Bool.eq_iff_iff]; simp; omega))), hB1⟩
      · have hcb : (c == 0) = false := by simpa using hc
        have hcd : decide (c = 0) = false := decide_eq_false hc
        rw [hcd]
        clear hc hcd
        by_cases h3n : 3 ≤ n
        · have h3d : decide (3 ≤ n) = true := decide_eq_true h3n
          rw [h3d]
          clear h3d
          cases h3 : btw lo 0 hi
          · replace h3 := Lib.hid h3
            go_enter Tryz.func14, Tryz.ntmps14
            go_wp2_with fail
            refine (q5pB h0 A n cap _ (HA.out.below oB (Nat.le_refl _)) hn hlen).mono ?_
            rintro e w1 ⟨rfl, hb1⟩
            have o1 := o0.below hb1 o0.lt
            have hB1 := oB.trans (hb1.mono oB.size)
            clear hb1 o0 oB
            obtain ⟨l1, c1, f1⟩ := o1
            go_wp2_with fail
            refine (q5wB h1 _).mono ?_
            rintro e w2 ⟨rfl, rfl⟩
            go_wp2_with fail
            refine (q5wB h3 _).mono ?_
            rintro e w2 ⟨rfl, rfl⟩
            go_wp2
            all_goals go_ret
            all_goals exact ⟨ret_bool (by simp), hB1⟩
          · replace h3 := Lib.hid h3
            go_enter Tryz.func14, Tryz.ntmps14
            go_wp2_with fail
            refine (q5pB h0 A n cap _ (HA.out.below oB (Nat.le_refl _)) hn hlen).mono ?_
            rintro e w1 ⟨rfl, hb1⟩
            have o1 := o0.below hb1 o0.lt
            have hB1 := oB.trans (hb1.mono oB.size)
            clear hb1 o0 oB
            obtain ⟨l1, c1, f1⟩ := o1
            go_wp2_with fail
            refine (q5wB h1 _).mono ?_
            rintro e w2 ⟨rfl, rfl⟩
            go_wp2_with fail
            refine (q5wB h3 _).mono ?_
            rintro e w2 ⟨rfl, rfl⟩
            go_wp2
            all_goals go_ret
            all_goals exact ⟨ret_bool (by (first | rfl | (rw [Bool.eq_iff_iff]; simp; done) | (rw [Bool.eq_iff_iff]; simp; omega))), hB1⟩
        · have h3d : decide (3 ≤ n) = false := decide_eq_false h3n
          rw [h3d]
          clear h3d
          go_enter Tryz.func14, Tryz.ntmps14
          go_wp2_with fail
          refine (q5pB h0 A n cap _ (HA.out.below oB (Nat.le_refl _)) hn hlen).mono ?_
          rintro e w1 ⟨rfl, hb1⟩
          have o1 := o0.below hb1 o0.lt
          have hB1 := oB.trans (hb1.mono oB.size)
          clear hb1 o0 oB
          obtain ⟨l1, c1, f1⟩ := o1
          go_wp2_with fail
          refine (q5wB h1 _).mono ?_
          rintro e w2 ⟨rfl, rfl⟩
          go_wp2
          all_goals go_ret
          all_goals exact ⟨ret_bool (by simp), hB1⟩
theorem q5tB {T : List P2} {c lo hi : Int} {b : Bool} (h : Hid (Tk.okTb T c lo hi = b)) (A : Option Addr) (n cap : Nat) (w : World) (hA : Rd 2 w A (T.map ptrow)) (hn : Hid (n = T.length)) (hlen : n ≤ 9223372036854775807) :
    Calls Tryz.prog 14 #[tkV A n cap c lo hi] w fun e w' => e = .returned (.bool b) ∧ Below w.heap.size w w' := cBB h.out (q5isTrackW A T n cap c lo hi w hA hn hlen)
set_option maxHeartbeats 2000000 in
theorem q5CheckW (A B : Option Addr) (T P : List P2) (n cap m cb : Nat) (c lo hi : Int) (w : World) (hA : Rd 2 w A (T.map ptrow)) (hB : Rd 2 w B (P.map ptrow)) (hn : Hid (n = T.length)) (hm : Hid (m = P.length)) (hlen : n ≤ 9223372036854775807) (hlen2 : m ≤ 9223372036854775807) :
    Calls Tryz.prog 5 #[tkV A n cap c lo hi, .slice B m cb] w fun e w' => e = .returned (.int .i64 (Tk.chk T P c lo hi)) ∧ Below w.heap.size w w' := by
  have HA := Lib.hid hA
  have HB := Lib.hid hB
  have oB : Below w.heap.size w (w.alloc (.cells #[.slice A n cap, .int .i64 c, .int .i64 lo, .int .i64 hi] 26)) := by (repeat' (first | (with_reducible exact Below.refl _ _) | (with_reducible assumption) | (with_reducible refine Below.drew ?_) | (with_reducible refine below_drewN ?_ _) | (with_reducible refine Below.setCell ?_ ?_ _) | (with_reducible refine Below.alloc ?_ ?_ _) | (refine Below.trans ?_ (Below.mono (by with_reducible assumption) ?_)) | omega | (exact Below.size (by with_reducible assumption)) | (simp; done) | (simp; omega)))
  clear hA hB
  cases h0 : Tk.okTb T c lo hi
  · have hv : Tk.chk T P c lo hi = 50 := by unfold Tk.chk; rw [h0]; rfl
    rw [hv]
    replace h0 := Lib.hid h0
    clear hv
    go_enter Tryz.func5, Tryz.ntmps5
    go_wp2_with fail
    refine (q5tB h0 A n cap _ (HA.out.below oB (Nat.le_refl _)) hn hlen).mono ?_
    rintro e w1 ⟨rfl, hb1⟩
    go_wp2
    go_ret
    exact ⟨rfl, oB.trans (hb1.mono oB.size)⟩
  · cases h1 : Tk.okPts P
    · have hv : Tk.chk T P c lo hi = 51 := by unfold Tk.chk; rw [h0, h1]; rfl
      rw [hv]
      replace h0 := Lib.hid h0
      replace h1 := Lib.hid h1
      clear hv
      go_enter Tryz.func5, Tryz.ntmps5
      go_wp2_with fail
      refine (q5tB h0 A n cap _ (HA.out.below oB (Nat.le_refl _)) hn hlen).mono ?_
      rintro e w1 ⟨rfl, hb1⟩
      have hB1 := oB.trans (hb1.mono oB.size)
      clear hb1 oB
      go_wp2_with fail
      refine (cBB h1.out (q5IsWalkW B P m cb _ (HB.out.below hB1 (Nat.le_refl _)) hm hlen2)).mono ?_
      rintro e w2 ⟨rfl, hb2⟩
      go_wp2
      go_ret
      exact ⟨rfl, hB1.trans (hb2.mono hB1.size)⟩
    · have hv : Tk.chk T P c lo hi = 0 := by unfold Tk.chk; rw [h0, h1]; rfl
      rw [hv]
      replace h0 := Lib.hid h0
      replace h1 := Lib.hid h1
      clear hv
      go_enter Tryz.func5, Tryz.ntmps5
      go_wp2_with fail
      refine (q5tB h0 A n cap _ (HA.out.below oB (Nat.le_refl _)) hn hlen).mono ?_
      rintro e w1 ⟨rfl, hb1⟩
      have hB1 := oB.trans (hb1.mono oB.size)
      clear hb1 oB
      go_wp2_with fail
      refine (cBB h1.out (q5IsWalkW B P m cb _ (HB.out.below hB1 (Nat.le_refl _)) hm hlen2)).mono ?_
      rintro e w2 ⟨rfl, hb2⟩
      go_wp2
      go_ret
      exact ⟨rfl, hB1.trans (hb2.mono hB1.size)⟩
end Go.Proofs.YtgmhelclofnpkaaGreat
namespace Go.Proofs.YtgmhelclofnpkaaGreat
open Go.RowKit

set_option maxHeartbeats 2000000 in
theorem q5ReachesW (A : Option Addr) (T : List P2) (n cap K : Nat) (c lo hi : Int) (g p : P2) (w : World) (hA : Rd 2 w A (T.map ptrow)) (hn : Hid (n = T.length)) (hn8 : n ≤ 1000) (hg : Hid (T[K]? = some g)) (hg1 : Pl.isP g = true) (hp1 : Pl.isP p = true) :
    Calls Tryz.prog 22 #[tkV A n cap c lo hi, .int .i64 K, ptV p] w fun e w' => e = .returned (.bool (btw (Tk.dst g p) lo hi)) ∧ Below w.heap.size w w' := by
  obtain ⟨b, off, rfl, hb, hc0, hc1⟩ := rd_p2 hA hg.out
  have hK : K < n := by have := (List.getElem?_eq_some_iff.1 hg.out).1; have := hn.out; omega
  obtain ⟨p1, p2⟩ := p
  have i1 := Pl.isP_iff.1 hg1
  have i2 := Pl.isP_iff.1 hp1
  have q1 := Pl.mul_bd (a := g.1 - p1) (b := g.1 - p1) (A := 400) (B := 400) (by omega) (by omega)
  have q2 := Pl.mul_bd (a := g.2 - p2) (b := g.2 - p2) (A := 400) (B := 400) (by omega) (by omega)
  have oB : Below w.heap.size w ((w.alloc (.cells #[.slice (some ⟨b, off, none⟩) n cap, .int .i64 c, .int .i64 lo, .int .i64 hi] 26)).alloc (.cells #[.int .i64 p1, .int .i64 p2] 52)) := by (repeat' (first | (with_reducible exact Below.refl _ _) | (with_reducible assumption) | (with_reducible refine Below.drew ?_) | (with_reducible refine below_drewN ?_ _) | (with_reducible refine Below.setCell ?_ ?_ _) | (with_reducible refine Below.alloc ?_ ?_ _) | (refine Below.trans ?_ (Below.mono (by with_reducible assumption) ?_)) | omega | (exact Below.size (by with_reducible assumption)) | (simp; done) | (simp; omega)))
  have o0 : Own ((w.alloc (.cells #[.slice (some ⟨b, off, none⟩) n cap, .int .i64 c, .int .i64 lo, .int .i64 hi] 26)).alloc (.cells #[.int .i64 p1, .int .i64 p2] 52)) w.heap.size (tkC (some ⟨b, off, none⟩) n cap c lo hi) := (Own.new' _ _ rfl rfl).alloc _
  have o1 : Own ((w.alloc (.cells #[.slice (some ⟨b, off, none⟩) n cap, .int .i64 c, .int .i64 lo, .int .i64 hi] 26)).alloc (.cells #[.int .i64 p1, .int .i64 p2] 52)) (w.heap.size + 1) [.int .i64 p1, .int .i64 p2] := Own.new' _ _ (by simp) rfl
  have hx0 := Aft.cell o0
  have hx1 := Aft.cell o1
  have hx2 := fun x : Aft ((w.alloc (.cells #[.slice (some ⟨b, off, none⟩) n cap, .int .i64 c, .int .i64 lo, .int .i64 hi] 26)).alloc (.cells #[.int .i64 p1, .int .i64 p2] 52)) => (x.h.cell (p := ⟨b, off + K * 2, none⟩) (by simp; omega)).trans ((oB.cell (p := ⟨b, off + K * 2, none⟩) hb).trans hc0)
  have hx3 := fun x : Aft ((w.alloc (.cells #[.slice (some ⟨b, off, none⟩) n cap, .int .i64 c, .int .i64 lo, .int .i64 hi] 26)).alloc (.cells #[.int .i64 p1, .int .i64 p2] 52)) => (x.h.cell (p := ⟨b, off + K * 2 + 1, none⟩) (by simp; omega)).trans ((oB.cell (p := ⟨b, off + K * 2 + 1, none⟩) hb).trans hc1)
  have O0 := Lib.hid o0
  simp only at q1 q2 i1 i2
  clear hA o0 o1 hg1 hp1
  go_enter Tryz.func22, Tryz.ntmps22
  go_wp2
  refine wp_region_aft (by kernel_rfl) (by kernel_rfl) ?_; (repeat (go_big_quiet_step (fail))); refine wpQuiet_nil ?_; rintro w1 ⟨⟨_, hb1⟩, rfl⟩
  clear hx0 hx1 hx2 hx3
  obtain ⟨l0, c0, f0⟩ := O0.out.below hb1 O0.out.lt
  have hB1 := oB.trans (hb1.mono oB.size)
  clear hb1 oB hc0 hc1 hb
  go_wp2_with fail
  refine (q5withinW _ _ _ _).mono ?_
  rintro e w2 ⟨rfl, rfl⟩
  go_wp2
  go_ret
  exact ⟨rfl, hB1⟩
theorem q5stepX (A : Option Addr) (n cap : Nat) (c lo hi a b v : Int) (s : Option Int) (t : Bool) (w : World) (h : ∀ w, Calls Tryz.prog 23 #[tkV A n cap c lo hi, .int .i64 a, .int .i64 b] w fun e w' => e = .returned (.tuple #[.int .i64 v, .bool t]) ∧ Below w.heap.size w w') (e : Tk.stp n c a b = s) (e1 : s.getD 0 = v) (e2 : s.isSome = t) :
    Calls Tryz.prog 23 #[tkV A n cap c lo hi, .int .i64 a, .int .i64 b] w fun e w' => e = .returned (.tuple #[.int .i64 (Tk.sv n c a b), .bool (Tk.stp n c a b).isSome]) ∧ Below w.heap.size w w' := by
  have : Tk.sv n c a b = v := by unfold Tk.sv; rw [e, e1]
  rw [this, e, e2]; exact h w
set_option maxHeartbeats 8000000 in
theorem q5stepW (A : Option Addr) (n cap : Nat) (c lo hi a b : Int) (w : World) (ha : 0 ≤ a ∧ a < n) (hb : 0 ≤ b ∧ b < n) (hn8 : n ≤ 8) :
    Calls Tryz.prog 23 #[tkV A n cap c lo hi, .int .i64 a, .int .i64 b] w fun e w' => e = .returned (.tuple #[.int .i64 (Tk.sv n c a b), .bool (Tk.stp n c a b).isSome]) ∧ Below w.heap.size w w' := by
  by_cases c0 : a = b
  · refine q5stepX A n cap c lo hi a b 0 (some 0) true w (fun w => ?_) (by unfold Tk.stp; rw [if_pos c0]) rfl rfl
    subst c0
    go_enter Tryz.func23, Tryz.ntmps23
    go_wp2
    go_ret2
    exact ⟨rfl, by (repeat' (first | (with_reducible exact Below.refl _ _) | (with_reducible assumption) | (with_reducible refine Below.drew ?_) | (with_reducible refine below_drewN ?_ _) | (with_reducible refine Below.setCell ?_ ?_ _) | (with_reducible refine Below.alloc ?_ ?_ _) | (refine Below.trans ?_ (Below.mono (by with_reducible assumption) ?_)) | omega | (exact Below.size (by with_reducible assumption)) | (simp; done) | (simp; omega)))⟩
  · have q0 : (a == b) = false := by simpa using c0
    have q0' : decide (a = b) = false := decide_eq_false c0
    have w1 : IntKind.i64.wrap (a + 1) = a + 1 := IntWalk.i64_in _ (by omega)
    have w2 : IntKind.i64.wrap (b + 1) = b + 1 := IntWalk.i64_in _ (by omega)
    have hn0 : ¬ (n : Int) = 0 := by omega
    by_cases c1 : b = a + 1
    · refine q5stepX A n cap c lo hi a b 1 (some 1) true w (fun w => ?_) (by unfold Tk.stp; rw [if_neg c0, if_pos (Or.inl c1)]) rfl rfl
      have q1 : (b == a + 1) = true := by simpa using c1
      clear c0 c1
      go_enter Tryz.func23, Tryz.ntmps23
      go_wp2
      go_ret2
      exact ⟨rfl, by (repeat' (first | (with_reducible exact Below.refl _ _) | (with_reducible assumption) | (with_reducible refine Below.drew ?_) | (with_reducible refine below_drewN ?_ _) | (with_reducible refine Below.setCell ?_ ?_ _) | (with_reducible refine Below.alloc ?_ ?_ _) | (refine Below.trans ?_ (Below.mono (by with_reducible assumption) ?_)) | omega | (exact Below.size (by with_reducible assumption)) | (simp; done) | (simp; omega)))⟩
    · have q1 : (b == a + 1) = false := by simpa using c1
      by_cases d1 : c = 1
      · subst d1
        obtain ⟨r1, hr1⟩ : ∃ r, (a + 1).tmod n = r := ⟨_, rfl⟩
        obtain ⟨r2, hr2⟩ : ∃ r, (b + 1).tmod n = r := ⟨_, rfl⟩
        have hv1 : (a + 1 < n ∧ r1 = a + 1) ∨ (a + 1 = n ∧ r1 = 0) := by
          rcases (show a + 1 < n ∨ a + 1 = n by omega) with k | k
          · exact Or.inl ⟨k, by rw [← hr1, Int.tmod_eq_emod_of_nonneg (by omega), Int.emod_eq_of_lt (by omega) k]⟩
          · exact Or.inr ⟨k, by rw [← hr1, k, Int.tmod_self]⟩
        have hv2 : (b + 1 < n ∧ r2 = b + 1) ∨ (b + 1 = n ∧ r2 = 0) := by
          rcases (show b + 1 < n ∨ b + 1 = n by omega) with k | k
          · exact Or.inl ⟨k, by rw [← hr2, Int.tmod_eq_emod_of_nonneg (by omega), Int.emod_eq_of_lt (by omega) k]⟩
          · exact Or.inr ⟨k, by rw [← hr2, k, Int.tmod_self]⟩
        have w3 : IntKind.i64.wrap r1 = r1 := IntWalk.i64_in _ (by omega)
        have w4 : IntKind.i64.wrap r2 = r2 := IntWalk.i64_in _ (by omega)
        by_cases c2 : b = r1
        · refine q5stepX A n cap 1 lo hi a b 1 (some 1) true w (fun w => ?_) (by unfold Tk.stp; rw [if_neg c0, if_pos (Or.inr (by omega))]) rfl rfl
          have q2 : (b == r1) = true := by simpa using c2
          clear c0 c1 c2 hv1 hv2 hr2 w4
          go_enter Tryz.func23, Tryz.ntmps23
          go_wp2
          go_ret2
          exact ⟨rfl, by (repeat' (first | (with_reducible exact Below.refl _ _) | (with_reducible assumption) | (with_reducible refine Below.drew ?_) | (with_reducible refine below_drewN ?_ _) | (with_reducible refine Below.setCell ?_ ?_ _) | (with_reducible refine Below.alloc ?_ ?_ _) | (refine Below.trans ?_ (Below.mono (by with_reducible assumption) ?_)) | omega | (exact Below.size (by with_reducible assumption)) | (simp; done) | (simp; omega)))⟩
        · have q2 : (b == r1) = false := by simpa using c2
          have k1 : ¬ (b = a + 1 ∨ ((1 : Int) = 1 ∧ a = n - 1 ∧ b = 0)) := by omega
          by_cases c3 : a = b + 1
          · refine q5stepX A n cap 1 lo hi a b (-1) (some (-1)) true w (fun w => ?_) (by unfold Tk.stp; rw [if_neg c0, if_neg k1, if_pos (Or.inl (by omega))]) rfl rfl
            have q3 : (a == b + 1) = true := by simpa using c3
            clear c0 c1 c2 c3 k1 hv1 hv2 hr2 w4
            go_enter Tryz.func23, Tryz.ntmps23
            go_wp2
            go_ret2
            exact ⟨rfl, by (repeat' (first | (with_reducible exact Below.refl _ _) | (with_reducible assumption) | (with_reducible refine Below.drew ?_) | (with_reducible refine below_drewN ?_ _) | (with_reducible refine Below.setCell ?_ ?_ _) | (with_reducible refine Below.alloc ?_ ?_ _) | (refine Below.trans ?_ (Below.mono (by with_reducible assumption) ?_)) | omega | (exact Below.size (by with_reducible assumption)) | (simp; done) | (simp; omega)))⟩
          · have q3 : (a == b + 1) = false := by simpa using c3
            by_cases c4 : a = r2
            · refine q5stepX A n cap 1 lo hi a b (-1) (some (-1)) true w (fun w => ?_) (by unfold Tk.stp; rw [if_neg c0, if_neg k1, if_pos (Or.inr (by omega))]) rfl rfl
              have q4 : (a == r2) = true := by simpa using c4
              clear c0 c1 c2 c3 c4 k1 hv1 hv2
              go_enter Tryz.func23, Tryz.ntmps23
              go_wp2
              go_ret2
              exact ⟨rfl, by (repeat' (first | (with_reducible exact Below.refl _ _) | (with_reducible assumption) | (with_reducible refine Below.drew ?_) | (with_reducible refine below_drewN ?_ _) | (with_reducible refine Below.setCell ?_ ?_ _) | (with_reducible refine Below.alloc ?_ ?_ _) | (refine Below.trans ?_ (Below.mono (by with_reducible assumption) ?_)) | omega | (exact Below.size (by with_reducible assumption)) | (simp; done) | (simp; omega)))⟩
            · refine q5stepX A n cap 1 lo hi a b 0 none false w (fun w => ?_) (by unfold Tk.stp; rw [if_neg c0, if_neg k1, if_neg (by omega)]) rfl rfl
              have q4 : (a == r2) = false := by simpa using c4
              clear c0 c1 c2 c3 c4 k1 hv1 hv2
              go_enter Tryz.func23, Tryz.ntmps23
              go_wp2
              go_ret2
              exact ⟨rfl, by (repeat' (first | (with_reducible exact Below.refl _ _) | (with_reducible assumption) | (with_reducible refine Below.drew ?_) | (with_reducible refine below_drewN ?_ _) | (with_reducible refine Below.setCell ?_ ?_ _) | (with_reducible refine Below.alloc ?_ ?_ _) | (refine Below.trans ?_ (Below.mono (by with_reducible assumption) ?_)) | omega | (exact Below.size (by with_reducible assumption)) | (simp; done) | (simp; omega)))⟩
      · have q2 : (c == 1) = false := by simpa using d1
        have k1 : ¬ (b = a + 1 ∨ (c = 1 ∧ a = n - 1 ∧ b = 0)) := by omega
        by_cases c3 : a = b + 1
        · refine q5stepX A n cap c lo hi a b (-1) (some (-1)) true w (fun w => ?_) (by unfold Tk.stp; rw [if_neg c0, if_neg k1, if_pos (Or.inl (by omega))]) rfl rfl
          have q3 : (a == b + 1) = true := by simpa using c3
          clear c0 c1 c3 k1 d1
          go_enter Tryz.func23, Tryz.ntmps23
          go_wp2
          go_ret2
          exact ⟨rfl, by (repeat' (first | (with_reducible exact Below.refl _ _) | (with_reducible assumption) | (with_reducible refine Below.drew ?_) | (with_reducible refine below_drewN ?_ _) | (with_reducible refine Below.setCell ?_ ?_ _) | (with_reducible refine Below.alloc ?_ ?_ _) | (refine Below.trans ?_ (Below.mono (by with_reducible assumption) ?_)) | omega | (exact Below.size (by with_reducible assumption)) | (simp; done) | (simp; omega)))⟩
        · have q3 : (a == b + 1) = false := by simpa using c3
          refine q5stepX A n cap c lo hi a b 0 none false w (fun w => ?_) (by unfold Tk.stp; rw [if_neg c0, if_neg k1, if_neg (by omega)]) rfl rfl
          clear c0 c1 c3 k1 d1
          go_enter Tryz.func23, Tryz.ntmps23
          go_wp2
          go_ret2
          exact ⟨rfl, by (repeat' (first | (with_reducible exact Below.refl _ _) | (with_reducible assumption) | (with_reducible refine Below.drew ?_) | (with_reducible refine below_drewN ?_ _) | (with_reducible refine Below.setCell ?_ ?_ _) | (with_reducible refine Below.alloc ?_ ?_ _) | (refine Below.trans ?_ (Below.mono (by with_reducible assumption) ?_)) | omega | (exact Below.size (by with_reducible assumption)) | (simp; done) | (simp; omega)))⟩
namespace Tk
def inb (T : List P2) (lo hi : Int) (P : List P2) (E : List Int) (i : Nat) : Bool := btw (ev E i) 0 (T.length - 1) && rch T lo hi (ev E i) (Pl.at' P i)
def okEb (T : List P2) (c lo hi : Int) (P : List P2) (E : List Int) : Bool := decide (E.length = P.length) && ((List.range E.length).all (inb T lo hi P E) && (List.range E.length).all fun i => (stp T.length c (ev E i) (en E i)).isSome)
theorem okE_of {T : List P2} {c lo hi : Int} {P : List P2} {E : List Int} (h : okEb T c lo hi P E = true) : OkE T c lo hi P E := by
  unfold okEb at h
  simp only [Bool.and_eq_true, List.all_eq_true, List.mem_range, decide_eq_true_eq] at h
  refine ⟨h.1, fun i hi => ?_, fun i hi => ?_, fun i hi => h.2.2 i hi⟩
  · have := h.2.1 i hi
    unfold inb at this
    rw [Bool.and_eq_true, btw_iff] at this
    omega
  · have := h.2.1 i hi
    unfold inb at this
    rw [Bool.and_eq_true] at this
    exact this.2
theorem okE_no1 {T : List P2} {c lo hi : Int} {P : List P2} {E : List Int} {i : Nat} (hi' : i < E.length) (h : inb T lo hi P E i = false) : okEb T c lo hi P E = false := by
  have : (List.range E.length).all (inb T lo hi P E) = false := by
    rw [List.all_eq_false]; exact ⟨i, List.mem_range.2 hi', by rw [h]; simp⟩
  unfold okEb
  rw [this]; simp
theorem okE_no2 {T : List P2} {c lo hi : Int} {P : List P2} {E : List Int} {i : Nat} (hi' : i < E.length) (h : (stp T.length c (ev E i) (en E i)).isSome = false) : okEb T c lo hi P E = false := by
  have : ((List.range E.length).all fun i => (stp T.length c (ev E i) (en E i)).isSome) = false := by
    rw [List.all_eq_false]; exact ⟨i, List.mem_range.2 hi', by rw [h]; simp⟩
  unfold okEb
  rw [this]; simp
end Tk
end Go.Proofs.YtgmhelclofnpkaaGreat
namespace Go.Proofs.YtgmhelclofnpkaaGreat
open Go.RowKit

theorem q5stepB {n : Nat} {c a b : Int} {t : Bool} (h : (Tk.stp n c a b).isSome = t) (A : Option Addr) (cap : Nat) (lo hi : Int) (w : World) (ha : 0 ≤ a ∧ a < n) (hb : 0 ≤ b ∧ b < n) (hn8 : n ≤ 8) :
    Calls Tryz.prog 23 #[tkV A n cap c lo hi, .int .i64 a, .int .i64 b] w fun e w' => e = .returned (.tuple #[.int .i64 (Tk.sv n c a b), .bool t]) ∧ Below w.heap.size w w' := by
  rw [← h]; exact q5stepW A n cap c lo hi a b w ha hb hn8
set_option maxRecDepth 100000 in
set_option maxHeartbeats 8000000 in
theorem q5AreElbowsW (A B A1 : Option Addr) (T P : List P2) (E : List Int) (n cap m cb n1 cap1 : Nat) (c lo hi : Int) (w : World) (hA : Rd 2 w A (T.map ptrow)) (hB : Rd 2 w B (P.map ptrow)) (hE : RdI w A1 E) (hn : Hid (n = T.length)) (hm : Hid (m = P.length)) (hn1 : Hid (n1 = E.length)) (hn8 : 1 ≤ n ∧ n ≤ 8) (hm8 : m ≤ 8) (hl1 : n1 ≤ 9223372036854775807) (hT : Hid (T.all Pl.isP = true)) (hP : Hid (P.all Pl.isP = true)) :
    Calls Tryz.prog 7 #[tkV A n cap c lo hi, .slice B m cb, .slice A1 n1 cap1] w fun e w' => e = .returned (.bool (Tk.okEb T c lo hi P E)) ∧ Below w.heap.size w w' := by
  have HA := Lib.hid hA
  have HB := Lib.hid hB
  have HE := Lib.hid hE
  clear hA hB hE
  have o0 : Own (w.alloc (.cells #[.slice A n cap, .int .i64 c, .int .i64 lo, .int .i64 hi] 26)) w.heap.size (tkC A n cap c lo hi) := Own.new' _ _ rfl rfl
  have oB : Below w.heap.size w (w.alloc (.cells #[.slice A n cap, .int .i64 c, .int .i64 lo, .int .i64 hi] 26)) := by (repeat' (first | (with_reducible exact Below.refl _ _) | (with_reducible assumption) | (with_reducible refine Below.drew ?_) | (with_reducible refine below_drewN ?_ _) | (with_reducible refine Below.setCell ?_ ?_ _) | (with_reducible refine Below.alloc ?_ ?_ _) | (refine Below.trans ?_ (Below.mono (by with_reducible assumption) ?_)) | omega | (exact Below.size (by with_reducible assumption)) | (simp; done) | (simp; omega)))
  by_cases hnm : n1 = m
  · subst hnm
    have w3 : IntKind.i64.wrap ((n : Int) - 1) = (n : Int) - 1 := IntWalk.i64_in _ (by omega)
    go_enter Tryz.func7, Tryz.ntmps7
    go_wp2
    go_loopw [7] (fun i wr => ∃ k : Nat, k ≤ n1 ∧ i = .int .i64 k ∧ Hid (∀ i, i < k → Tk.inb T lo hi P E i = true) ∧ Own wr w.heap.size (tkC A n cap c lo hi) ∧ Below w.heap.size w wr) (fun i _ => n1 - (RowKit.intOf i).toNat)
    case atStart => exact ⟨0, Nat.zero_le _, rfl, fun i h => by omega, o0, oB⟩
    case round =>
      clear o0 oB
      obtain ⟨k, hk', rfl, hal, o0, hbw⟩ := hrel
      have O0 := Lib.hid o0
      obtain ⟨l0, c0, f0⟩ := o0
      by_cases hlt : k < n1
      · obtain ⟨x, hx⟩ : ∃ x, Hid (E[k]? = some x) := ⟨E[k]'(by have := hn1.out; omega), by simp [Hid]⟩
        obtain ⟨p, hp⟩ : ∃ p, Hid (P[k]? = some p) := ⟨P[k]'(by have := hm.out; omega), by simp [Hid]⟩
        obtain ⟨b, off, rfl, hb, hc0⟩ := RdI.elem (show RdI wr A1 E from HE.out.below hbw (Nat.le_refl _)) hx.out
        obtain ⟨b2, off2, rfl, hb2, hd0, hd1⟩ := rd_p2 (HB.out.below hbw (Nat.le_refl _)) hp.out
        have hx0 := Aft.cell O0.out
        have hx1 := fun x : Aft wr => (Aft.old x hb _).trans hc0
        have hx2 := fun x : Aft wr => (Aft.old x hb2 _).trans hd0
        have hx3 := fun x : Aft wr => (Aft.old x hb2 _).trans hd1
        have hinb : Hid (Tk.inb T lo hi P E k = (btw x 0 (n - 1) && Tk.rch T lo hi x p)) := by
          show _ = _
          unfold Tk.inb; rw [ev_of hx.out, at_of hp.out, hn.out]
        cases hbt : btw x 0 (n - 1)
        · have hno := Lib.hid (Tk.okE_no1 (T := T) (c := c) (lo := lo) (hi := hi) (P := P) (E := E) (i := k) (by have := hn1.out; omega) (by rw [hinb.out, hbt]; rfl))
          have HW := Lib.hid (fun W => cPB hbt (q5withinW x 0 (n - 1) W))
          clear hbt hd0 hd1 hc0
          go_wp2
          refine wp_region_aft (by kernel_rfl) (by kernel_rfl) ?_; (repeat (go_big_quiet_step ((go_at_call 21; with_reducible exact aft_same (HW.out _))))); refine wpQuiet_nil ?_; rintro w1 ⟨⟨_, hb1⟩, rfl⟩
          go_wp2
          go_ret
          exact ⟨ret_bool hno.out.symm, hbw.trans (hb1.mono hbw.size)⟩
        · have HW := Lib.hid (fun W => cPB hbt (q5withinW x 0 (n - 1) W))
          have hxr := btw_iff.1 hbt
          obtain ⟨X, rfl⟩ : ∃ X : Nat, x = X := ⟨x.toNat, by omega⟩
          have hXn : X < n := by omega
          obtain ⟨g, hg⟩ : ∃ g, Hid (T[X]? = some g) := ⟨T[X]'(by have := hn.out; omega), by simp [Hid]⟩
          have hg1 := List.all_eq_true.1 hT.out g (List.mem_of_getElem? hg.out)
          have hp1 := List.all_eq_true.1 hP.out p (List.mem_of_getElem? hp.out)
          have R2 := HA.out.below hbw (Nat.le_refl _)
          have hrc : Hid (Tk.inb T lo hi P E k = btw (Tk.dst g p) lo hi) := by
            show _ = _
            rw [hinb.out, hbt, Bool.true_and]
            unfold Tk.rch Tk.tp
            rw [Int.toNat_natCast, at_of hg.out]
          cases hr : btw (Tk.dst g p) lo hi
          · have hno := Lib.hid (Tk.okE_no1 (T := T) (c := c) (lo := lo) (hi := hi) (P := P) (E := E) (i := k) (by have := hn1.out; omega) (by rw [hrc.out, hr]))
            have HR := Lib.hid (fun x : Aft wr => cBB hr (q5ReachesW A T n cap X c lo hi g p x.w (R2.below x.h (Nat.le_refl _)) hn (by omega) hg hg1 hp1))
            clear hbt hd0 hd1 hc0 hr hxr hg1 hp1 R2
            go_wp2
            refine wp_region_aft (by kernel_rfl) (by kernel_rfl) ?_; (repeat (go_big_quiet_step ((first | (go_at_call 21; with_reducible exact aft_same (HW.out _)) | (go_at_call 22; with_reducible exact aft_of (HR.out _)))))); refine wpQuiet_nil ?_; rintro w1 ⟨⟨_, hb1⟩, rfl⟩
            go_wp2
            go_ret
            exact ⟨ret_bool hno.out.symm, hbw.trans (hb1.mono hbw.size)⟩
          · have HR := Lib.hid (fun x : Aft wr => cBB hr (q5ReachesW A T n cap X c lo hi g p x.w (R2.below x.h (Nat.le_refl _)) hn (by omega) hg hg1 hp1))
            have hnew := Lib.hid (show Tk.inb T lo hi P E k = true by rw [hrc.out, hr])
            clear hbt hd0 hd1 hc0 hr hxr hg1 hp1 R2
            go_wp2
            refine wp_region_aft (by kernel_rfl) (by kernel_rfl) ?_; (repeat (go_big_quiet_step ((first | (go_at_call 21; with_reducible exact aft_same (HW.out _)) | (go_at_call 22; with_reducible exact aft_of (HR.out _)))))); refine wpQuiet_nil ?_; rintro w1 ⟨⟨_, hb1⟩, rfl⟩
            have o1 := O0.out.below hb1 O0.out.lt
            have hB1 := hbw.trans (hb1.mono hbw.size)
            clear hx0 hx1 hx2 hx3 O0 hb1 hbw l0 c0 f0
            go_wp2
            go_roundw
            case rel =>
              refine ⟨k + 1, by omega, by go_num, fun i hi => ?_, o1, hB1⟩
              by_cases e : i = k
              · subst e; exact hnew.out
              · exact hal.out i (by omega)
            case measure => simp only [RowKit.intOf]; omega
      · have hkn : k = n1 := by omega
        subst hkn
        have hin : Hid (∀ i, i < k → ∃ X : Nat, E[i]? = some (X : Int) ∧ X < n) := fun i hi => by
          have := hal.out i hi
          unfold Tk.inb at this
          rw [Bool.and_eq_true, btw_iff] at this
          have hi' : i < E.length := by have := hn1.out; omega
          have e : Tk.ev E i = E[i] := by simp [Tk.ev, List.getD_eq_getElem?_getD, hi']
          rw [e] at this
          have hnl := hn.out
          exact ⟨E[i].toNat, by rw [List.getElem?_eq_getElem hi']; congr 1; omega, by omega⟩
        go_wp2
        go_loopw [8] (fun i wr => ∃ k1 : Nat, k1 ≤ k ∧ i = .int .i64 k1 ∧ Hid (∀ i, i < k1 → (Tk.stp T.length c (Tk.ev E i) (Tk.en E i)).isSome = true) ∧ Own wr w.heap.size (tkC A n cap c lo hi) ∧ Below w.heap.size w wr) (fun i _ => k - (RowKit.intOf i).toNat)
        case atStart => exact ⟨0, Nat.zero_le _, rfl, fun i h => by omega, O0.out, hbw⟩
        case round =>
          clear O0 l0 c0 f0 hbw
          obtain ⟨k1, hk1, rfl, hal2, o0, hbw⟩ := hrel
          have O0 := Lib.hid o0
          obtain ⟨l0, c0, f0⟩ := o0
          by_cases hlt2 : k1 < k
          · obtain ⟨X, hX, hXn⟩ := hin.out k1 hlt2
            obtain ⟨j, hj⟩ : ∃ j, (k1 + 1) % k = j := ⟨_, rfl⟩
            have hjm : j < k := by rw [← hj]; exact Nat.mod_lt _ (by omega)
            obtain ⟨Y, hY, hYn⟩ := hin.out j hjm
            have hR1 : RdI _ A1 E := HE.out.below hbw (Nat.le_refl _)
            obtain ⟨b, off, rfl, hb, hc0⟩ := RdI.elem hR1 hX
            have hc1 := rdi_c hR1 hY
            have hx0 := Aft.cell O0.out
            have hx1 := fun x : Aft _ => (Aft.old x hb _).trans hc0
            have hx2 := fun x : Aft _ => (Aft.old x hb _).trans hc1
            have e1 : IntKind.i64.wrap ((k1 : Int) + 1) = (k1 : Int) + 1 := IntWalk.i64_in _ (by omega)
            have e2 : ((k1 : Int) + 1).tmod (k : Int) = (j : Int) := by
              rw [Int.tmod_eq_emod_of_nonneg (by omega), ← hj]; simp
            have e3 : ¬ (k : Int) = 0 := by omega
            have e4 : IntKind.i64.wrap ((j : Nat) : Int) = ((j : Nat) : Int) := IntWalk.i64_in _ (by omega)
            have hst : Hid ((Tk.stp T.length c (Tk.ev E k1) (Tk.en E k1)).isSome = (Tk.stp n c X Y).isSome) := by
              show _ = _
              unfold Tk.en
              rw [← hn1.out, hj, ev_of hX, ev_of hY, hn.out]
            cases hs : (Tk.stp n c X Y).isSome
            · have hno := Lib.hid (Tk.okE_no2 (T := T) (c := c) (lo := lo) (hi := hi) (P := P) (E := E) (i := k1) (by have := hn1.out; omega) (by rw [hst.out, hs]))
              have HS := Lib.hid (fun W => q5stepB hs A cap lo hi W (by omega) (by omega) (by omega))
              clear hs hc0 hc1 hR1 hj hX hY
              go_wp2
              refine wp_region_aft (by kernel_rfl) (by kernel_rfl) ?_; (repeat (go_big_quiet_step ((go_at_call 23; with_reducible exact aft_of (HS.out _))))); refine wpQuiet_nil ?_; rintro w1 ⟨⟨_, hb1⟩, rfl⟩
              go_wp2
              go_ret
              exact ⟨ret_bool hno.out.symm, hbw.trans (hb1.mono hbw.size)⟩
            · have hnew := Lib.hid (show (Tk.stp T.length c (Tk.ev E k1) (Tk.en E k1)).isSome = true by rw [hst.out, hs])
              have HS := Lib.hid (fun W => q5stepB hs A cap lo hi W (by omega) (by omega) (by omega))
              clear hs hc0 hc1 hR1 hj hX hY
              go_wp2
              refine wp_region_aft (by kernel_rfl) (by kernel_rfl) ?_; (repeat (go_big_quiet_step ((go_at_call 23; with_reducible exact aft_of (HS.out _))))); refine wpQuiet_nil ?_; rintro w1 ⟨⟨_, hb1⟩, rfl⟩
              have o1 := O0.out.below hb1 O0.out.lt
              have hB1 := hbw.trans (hb1.mono hbw.size)
              clear hx0 hx1 hx2 O0 hb1 hbw l0 c0 f0
              go_wp2
              go_roundw
              case rel =>
                refine ⟨k1 + 1, by omega, by go_num, fun i hi => ?_, o1, hB1⟩
                by_cases e : i = k1
                · subst e; exact hnew.out
                · exact hal2.out i (by omega)
              case measure => simp only [RowKit.intOf]; omega
          · have hfin : Hid (Tk.okEb T c lo hi P E = true) := by
              show _ = _
              unfold Tk.okEb
              simp only [Bool.and_eq_true, List.all_eq_true, List.mem_range, decide_eq_true_eq]
              exact ⟨by rw [← hn1.out, ← hm.out], fun i hi => hal.out i (by rw [hn1.out]; exact hi), fun i hi => hal2.out i (by have := hn1.out; omega)⟩
            go_wp2
            go_ret
            exact ⟨ret_bool hfin.out.symm, hbw⟩
  · have hv : Tk.okEb T c lo hi P E = false := by
      unfold Tk.okEb
      rw [decide_eq_false (by rw [← hn1.out, ← hm.out]; exact hnm), Bool.false_and]
    rw [hv]
    have hb : ((n1 : Int) != (m : Int)) = true := by simp; omega
    clear hv hnm
    go_enter Tryz.func7, Tryz.ntmps7
    go_wp2
    go_ret
    exact ⟨rfl, oB⟩
end Go.Proofs.YtgmhelclofnpkaaGreat
