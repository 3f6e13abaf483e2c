/- Walks: Check of the program. -/
import Derived.Test.YtphcpphmoeiioaaVB
namespace Go.Proofs.Ytphcpphmoeiioaa
open Go.RowKit

/-- A curve's numbers are valid. -/
def chkV (L sl rl rh wr : Int) (ks : List Kn) : Bool := btw L 1 12 && btw sl 0 20 && okS rl rh && decide (ks.length ≤ 8) && !ks.any (badN L) && btw wr 0 8
def chkE (L sl rl rh wr : Int) (ks : List Kn) : Int := if chkV L sl rl rh wr ks = true then 0 else 70
set_option maxRecDepth 100000 in
set_option maxHeartbeats 4000000 in
theorem check37 (L sl rl rh wr : Int) (A : Option Addr) (n cap : Nat) (ks : List Kn) (w : World) (hA : Rd 3 w A (ks.map krow)) (hn : Hid (n = ks.length)) (hlen : n ≤ 9223372036854775807) :
    Calls Try.prog 37 #[.agg #[.int .i64 L, .int .i64 sl, .int .i64 rl, .int .i64 rh, .slice A n cap, .int .i64 wr]] w fun e w' => e = .returned (.int .i64 (chkE L sl rl rh wr ks)) ∧ Below w.heap.size w w' := by
  have HA := Lib.hid hA
  clear hA
  cases h1 : btw L 1 12
  · have hE : Hid (chkE L sl rl rh wr ks = 70) := by show _ = _; simp [chkE, chkV, h1]
    have H1 := Lib.hid h1
    clear h1
    go_enter Try.func37, Try.ntmps37
    go_wp2_with fail
    refine (within66 _ _ _ _).mono ?_
    rw [H1.out]
    rintro e w1 ⟨rfl, rfl⟩
    go_wp2
    go_ret
    exact ⟨ret_int hE.out.symm, by (repeat' (first | (with_reducible exact Below.refl _ _) | (with_reducible assumption) | (with_reducible refine Below.drew ?_) | (with_reducible refine below_drewN ?_ _) | (with_reducible refine Below.setCell ?_ ?_ _) | (with_reducible refine Below.alloc ?_ ?_ _) | (refine Below.trans ?_ (Below.mono (by with_reducible assumption) ?_)) | omega | (exact Below.size (by with_reducible assumption)) | (simp; done) | (simp; omega)))⟩
  cases h2 : btw sl 0 20
  · have hE : Hid (chkE L sl rl rh wr ks = 70) := by show _ = _; simp [chkE, chkV, h1, h2]
    have H1 := Lib.hid h1
    have H2 := Lib.hid h2
    clear h1 h2
    go_enter Try.func37, Try.ntmps37
    go_wp2_with fail
    refine (within66 _ _ _ _).mono ?_
    rw [H1.out]
    rintro e w1 ⟨rfl, rfl⟩
    go_wp2_with fail
    refine (within66 _ _ _ _).mono ?_
    rw [H2.out]
    rintro e w1 ⟨rfl, rfl⟩
    go_wp2
    go_ret
    exact ⟨ret_int hE.out.symm, by (repeat' (first | (with_reducible exact Below.refl _ _) | (with_reducible assumption) | (with_reducible refine Below.drew ?_) | (with_reducible refine below_drewN ?_ _) | (with_reducible refine Below.setCell ?_ ?_ _) | (with_reducible refine Below.alloc ?_ ?_ _) | (refine Below.trans ?_ (Below.mono (by with_reducible assumption) ?_)) | omega | (exact Below.size (by with_reducible assumption)) | (simp; done) | (simp; omega)))⟩
  cases h3 : okS rl rh
  · have hE : Hid (chkE L sl rl rh wr ks = 70) := by show _ = _; simp [chkE, chkV, h1, h2, h3]
    have H1 := Lib.hid h1
    have H2 := Lib.hid h2
    have H3 := Lib.hid h3
    clear h1 h2 h3
    go_enter Try.func37, Try.ntmps37
    go_wp2_with fail
    refine (within66 _ _ _ _).mono ?_
    rw [H1.out]
    rintro e w1 ⟨rfl, rfl⟩
    go_wp2_with fail
    refine (within66 _ _ _ _).mono ?_
    rw [H2.out]
    rintro e w1 ⟨rfl, rfl⟩
    go_wp2_with fail
    refine (areHeights69 _ _ _).mono ?_
    rw [H3.out]
    rintro e w1 ⟨rfl, hb1⟩
    go_wp2
    go_ret
    exact ⟨ret_int hE.out.symm, by (repeat' (first | (with_reducible exact Below.refl _ _) | (with_reducible assumption) | (with_reducible refine Below.drew ?_) | (with_reducible refine below_drewN ?_ _) | (with_reducible refine Below.setCell ?_ ?_ _) | (with_reducible refine Below.alloc ?_ ?_ _) | (refine Below.trans ?_ (Below.mono (by with_reducible assumption) ?_)) | omega | (exact Below.size (by with_reducible assumption)) | (simp; done) | (simp; omega)))⟩
  have H1 := Lib.hid h1
  have H2 := Lib.hid h2
  have H3 := Lib.hid h3
  clear h1 h2 h3
  go_enter Try.func37, Try.ntmps37
  go_wp2_with fail
  refine (within66 _ _ _ _).mono ?_
  rw [H1.out]
  rintro e w1 ⟨rfl, rfl⟩
  go_wp2_with fail
  refine (within66 _ _ _ _).mono ?_
  rw [H2.out]
  rintro e w1 ⟨rfl, rfl⟩
  go_wp2_with fail
  refine (areHeights69 _ _ _).mono ?_
  rw [H3.out]
  rintro e w1 ⟨rfl, hb1⟩
  have hz1 := hb1.size
  have hc1 := fun o => (bcell hb1).1 w.heap.size o (by simp)
  have hf1 := fun o => (bcell hb1).2 w.heap.size o (by simp)
  simp at hz1 hc1 hf1
  by_cases h4 : n ≤ 8
  · have H4 := Lib.hid h4
    cases h5 : ks.any (badN L)
    · have H5 := Lib.hid h5
      clear h5
      have hE : Hid (chkE L sl rl rh wr ks = if btw wr 0 8 = true then 0 else 70) := by
        show _ = _
        have e4 : ks.length ≤ 8 := by rw [← hn.out]; exact H4.out
        simp [chkE, chkV, H1.out, H2.out, H3.out, H5.out, e4]
      go_wp2_with fail
      refine (contains70 w.heap.size _ ks _ _ L _ (HA.out.below (by (repeat' (first | (with_reducible exact Below.refl _ _) | (with_reducible assumption) | (with_reducible refine Below.drew ?_) | (with_reducible refine below_drewN ?_ _) | (with_reducible refine Below.setCell ?_ ?_ _) | (with_reducible refine Below.alloc ?_ ?_ _) | (refine Below.trans ?_ (Below.mono (by with_reducible assumption) ?_)) | omega | (exact Below.size (by with_reducible assumption)) | (simp; done) | (simp; omega)))) (Nat.le_refl _)) hn hlen (by omega) (by first | exact hc1 0 | (rw [hc1]; rfl))).mono ?_
      rw [H5.out]
      rintro e w2 ⟨rfl, hb2⟩
      have hc2 := fun o => ((bcell hb2).1 w.heap.size o (by omega)).trans (hc1 o)
      have hf2 := fun o => ((bcell hb2).2 w.heap.size o (by omega)).trans (hf1 o)
      have hz2 := hb2.size
      clear hc1 hf1
      have hE' : Hid (chkE L sl rl rh wr ks = if btw wr 0 8 = true then 0 else 70) := hE
      cases h6 : btw wr 0 8
      · have hE : Hid (chkE L sl rl rh wr ks = 70) := by show _ = _; rw [hE'.out, h6]; rfl
        clear hE'
        have H6 := Lib.hid h6
        clear h6
        go_wp2_with fail
        refine (within66 _ _ _ _).mono ?_
        rw [H6.out]
        rintro e w3 ⟨rfl, rfl⟩
        go_wp2
        go_ret
        exact ⟨ret_int hE.out.symm, by (repeat' (first | (with_reducible exact Below.refl _ _) | (with_reducible assumption) | (with_reducible refine Below.drew ?_) | (with_reducible refine below_drewN ?_ _) | (with_reducible refine Below.setCell ?_ ?_ _) | (with_reducible refine Below.alloc ?_ ?_ _) | (refine Below.trans ?_ (Below.mono (by with_reducible assumption) ?_)) | omega | (exact Below.size (by with_reducible assumption)) | (simp; done) | (simp; omega)))⟩
      · have hE : Hid (chkE L sl rl rh wr ks = 0) := by show _ = _; rw [hE'.out, h6]; rfl
        clear hE'
        have H6 := Lib.hid h6
        clear h6
        go_wp2_with fail
        refine (within66 _ _ _ _).mono ?_
        rw [H6.out]
        rintro e w3 ⟨rfl, rfl⟩
        go_wp2
        go_ret
        exact ⟨ret_int hE.out.symm, by (repeat' (first | (with_reducible exact Below.refl _ _) | (with_reducible assumption) | (with_reducible refine Below.drew ?_) | (with_reducible refine below_drewN ?_ _) | (with_reducible refine Below.setCell ?_ ?_ _) | (with_reducible refine Below.alloc ?_ ?_ _) | (refine Below.trans ?_ (Below.mono (by with_reducible assumption) ?_)) | omega | (exact Below.size (by with_reducible assumption)) | (simp; done) | (simp; omega)))⟩
    · have H5 := Lib.hid h5
      clear h5
      have hE : Hid (chkE L sl rl rh wr ks = 70) := by show _ = _; simp [chkE, chkV, H5.out]
      go_wp2_with fail
      refine (contains70 w.heap.size _ ks _ _ L _ (HA.out.below (by (repeat' (first | (with_reducible exact Below.refl _ _) | (with_reducible assumption) | (with_reducible refine Below.drew ?_) | (with_reducible refine below_drewN ?_ _) | (with_reducible refine Below.setCell ?_ ?_ _) | (with_reducible refine Below.alloc ?_ ?_ _) | (refine Below.trans ?_ (Below.mono (by with_reducible assumption) ?_)) | omega | (exact Below.size (by with_reducible assumption)) | (simp; done) | (simp; omega)))) (Nat.le_refl _)) hn hlen (by omega) (by first | exact hc1 0 | (rw [hc1]; rfl))).mono ?_
      rw [H5.out]
      rintro e w2 ⟨rfl, hb2⟩
      have hz2 := hb2.size
      go_wp2
      go_ret
      exact ⟨ret_int hE.out.symm, by (repeat' (first | (with_reducible exact Below.refl _ _) | (with_reducible assumption) | (with_reducible refine Below.drew ?_) | (with_reducible refine below_drewN ?_ _) | (with_reducible refine Below.setCell ?_ ?_ _) | (with_reducible refine Below.alloc ?_ ?_ _) | (refine Below.trans ?_ (Below.mono (by with_reducible assumption) ?_)) | omega | (exact Below.size (by with_reducible assumption)) | (simp; done) | (simp; omega)))⟩
  · have H4 := Lib.hid h4
    have hE : Hid (chkE L sl rl rh wr ks = 70) := by
      show _ = _
      have e4 : ¬ ks.length ≤ 8 := by rw [← hn.out]; exact H4.out
      simp [chkE, chkV, e4]
    go_wp2
    go_ret
    exact ⟨ret_int hE.out.symm, by (repeat' (first | (with_reducible exact Below.refl _ _) | (with_reducible assumption) | (with_reducible refine Below.drew ?_) | (with_reducible refine below_drewN ?_ _) | (with_reducible refine Below.setCell ?_ ?_ _) | (with_reducible refine Below.alloc ?_ ?_ _) | (refine Below.trans ?_ (Below.mono (by with_reducible assumption) ?_)) | omega | (exact Below.size (by with_reducible assumption)) | (simp; done) | (simp; omega)))⟩
end Go.Proofs.Ytphcpphmoeiioaa
