/- Walks: Seen and Settings of the reference. -/
import Derived.Test.YtfboiplpfkommaaWp
import Derived.Test.YtfboiplpfkommaaWq
import Derived.Test.YtfboiplpfkommaaSa
import Derived.Deep.LoopGhost
namespace Go.Proofs.Ytfboiplpfkommaa
open Go.RowKit

set_option maxRecDepth 100000 in
set_option maxHeartbeats 4000000 in
theorem seen43_core (P S s : Int) (w : World) (H1 : Hid (verB P S = true)) (H2 : Hid (btw s 0 10000 = true)) (hP : (2 ≤ P ∧ P ≤ 50) ∧ 0 ≤ S ∧ S ≤ P) (hs : 0 ≤ s ∧ s ≤ 10000) :
    Calls Try.prog 43 #[.agg #[.int .i64 P, .int .i64 S], .int .i64 s] w fun e w' => ∃ (A' : Option Addr) (cap' : Nat), e = .returned (.tuple #[.slice A' (linesL P S s P.toNat).length cap', .int .i64 0]) ∧ RdI w' A' (linesL P S s P.toNat) ∧ Below w.heap.size w w' := by
  obtain ⟨i0, hi0, hi1, hi2, hi3⟩ := info_parts Try.info3
  obtain ⟨⟨hP1, hP2⟩, hS0, hS1⟩ := hP
  go_enter Try.func43, Try.ntmps43
  go_wp2_with fail
  refine (isVernier47 _ _ _).mono ?_
  rw [H1.out]
  rintro e w1 ⟨rfl, hb1⟩
  (have hz1 := hb1.size; (try simp at hz1); have hc1_0 := fun o => (bcell hb1).1 (w.heap.size) o (by first | omega | (simp; done) | (simp; omega)); have hf1_0 := fun o => (bcell hb1).2 (w.heap.size) o (by first | omega | (simp; done) | (simp; omega)); have : w.heap.size < w1.heap.size := (by first | omega | (simp; done) | (simp; omega)); have : w.heap.size < w1.heap.size + 1 := (by first | omega | (simp; done) | (simp; omega)); have : w.heap.size < w1.heap.size + 2 := (by first | omega | (simp; done) | (simp; omega)); have : w.heap.size < w1.heap.size + 3 := (by first | omega | (simp; done) | (simp; omega)))
  go_wp2_with fail
  refine (within26 _ _ _ _).mono ?_
  rw [H2.out]
  rintro e _ ⟨rfl, rfl⟩
  have o1 : Own w1 w.heap.size [.int .i64 P, .int .i64 S] := (Own.new' _ _ rfl rfl).below hb1 (by simp)
  have hbw1 : Below w.heap.size w w1 := by (repeat' (first | (with_reducible exact Below.refl _ _) | (with_reducible assumption) | (with_reducible refine Below.drew ?_) | (with_reducible refine below_drewN ?_ _) | (with_reducible refine Below.setCell ?_ ?_ _) | (with_reducible refine Below.alloc ?_ ?_ _) | (refine Below.trans ?_ (Below.mono (by with_reducible assumption) ?_)) | omega | (exact Below.size (by with_reducible assumption)) | (simp; done) | (simp; omega)))
  clear hb1 hc1_0 hf1_0
  go_wp2_with fail
  go_loopg [6, 7] P.toNat (fun K out cnt wr => ∃ k : Nat, K + k = P.toNat ∧ cnt = .int .i64 k ∧ Gro wr (w.heap.size + 1) 3 1 out ((linesL P S s k).map irow) ∧ Own wr w.heap.size [.int .i64 P, .int .i64 S] ∧ Below w.heap.size w wr)
  case atStart => exact ⟨0, by omega, rfl, Gro.nil _ _ _ _, o1, hbw1⟩
  case round =>
    clear o1 hbw1
    obtain ⟨k, hk, rfl, hg, t0, hbw⟩ := hrel
    obtain ⟨l0, c0, f0⟩ := t0
    by_cases hlt : (k : Int) < P
    · have t0 : Own wr w.heap.size [.int .i64 P, .int .i64 S] := ⟨l0, c0, f0⟩
      cases hse : seemsB P S s k
      · have HS := Lib.hid hse
        go_wp2_with fail
        refine (fits80 P S s k _ hP1 hP2 hS0 hs.1 hs.2 (by omega) hlt).mono ?_
        rw [HS.out]
        rintro e w2 ⟨rfl, hb2⟩
        have q0 : Own w2 w.heap.size [.int .i64 P, .int .i64 S] := t0.below hb2 l0
        have q1 : Below w.heap.size w w2 := by (repeat' (first | (with_reducible exact Below.refl _ _) | (with_reducible assumption) | (with_reducible refine Below.drew ?_) | (with_reducible refine below_drewN ?_ _) | (with_reducible refine Below.setCell ?_ ?_ _) | (with_reducible refine Below.alloc ?_ ?_ _) | (refine Below.trans ?_ (Below.mono (by with_reducible assumption) ?_)) | omega | (exact Below.size (by with_reducible assumption)) | (simp; done) | (simp; omega)))
        have q2 : Gro w2 (w.heap.size + 1) 3 1 u6 ((linesL P S s k).map irow) := hg.below hb2 (Nat.le_refl _)
        clear t0 c0 f0 hb2 hbw hg
        go_wp2
        go_roundg (P.toNat - (k + 1))
        case measure => omega
        case rel =>
          refine ⟨k + 1, by omega, by go_num, ?_, q0, q1⟩
          rw [linesL_succ, hse]
          simpa using q2
      · have HS := Lib.hid hse
        go_wp2_with fail
        refine (fits80 P S s k _ hP1 hP2 hS0 hs.1 hs.2 (by omega) hlt).mono ?_
        rw [HS.out]
        rintro e w2 ⟨rfl, hb2⟩
        have q0 : Own w2 w.heap.size [.int .i64 P, .int .i64 S] := t0.below hb2 l0
        have q1 : Below w.heap.size w w2 := by (repeat' (first | (with_reducible exact Below.refl _ _) | (with_reducible assumption) | (with_reducible refine Below.drew ?_) | (with_reducible refine below_drewN ?_ _) | (with_reducible refine Below.setCell ?_ ?_ _) | (with_reducible refine Below.alloc ?_ ?_ _) | (refine Below.trans ?_ (Below.mono (by with_reducible assumption) ?_)) | omega | (exact Below.size (by with_reducible assumption)) | (simp; done) | (simp; omega)))
        have q2 : Gro w2 (w.heap.size + 1) 3 1 u6 ((linesL P S s k).map irow) := hg.below hb2 (Nat.le_refl _)
        clear t0 c0 f0 hb2 hbw hg
        have hlen' := linesL_len P S s k
        have hlen2 : ((linesL P S s k).map irow).length ≤ k := by simpa using hlen'
        have hsz : w.heap.size + 1 ≤ w2.heap.size := q0.lt
        go_wp2_with (at_builtin; refine wpList_append_own _ rfl _ _ 65 rfl (w.heap.size + 1) 3 i0 (.int .i64 0) 1 8 Try.underlying65 hi0 hi1 hi2 hi3 rfl (by decide) _ _ _ rfl (q2.2.alloc _) ⟨w2.heap.size, 0, none⟩ 1 1 [.int .i64 k] rfl rfl (cell_one_new _ _ _) (by intro u hu; simp at hu; subst hu; rfl) (by unfold maxLen; omega) (by omega) (by simp; omega) ?_; intro v' w5 hown' hgrow hnil)
        have hbA : Below (w.heap.size + 1) w2 w5 := ((Below.refl _ w2).alloc hsz _).grown hgrow (by simp; omega) (fun i hi => (q2.2.lt i hi).1)
        have r0 : Own w5 w.heap.size [.int .i64 P, .int .i64 S] := q0.below hbA (by omega)
        have r1 : Below w.heap.size w w5 := q1.trans (hbA.mono (by omega))
        have r2 : Gro w5 (w.heap.size + 1) 3 1 v' (((linesL P S s k).map irow) ++ [irow k]) := Gro.grown q2 rfl hown'
        clear q2 q0 q1 hown' hgrow hnil hbA
        go_wp2
        go_roundg (P.toNat - (k + 1))
        case measure => omega
        case rel =>
          refine ⟨k + 1, by omega, by go_num, ?_, r0, r1⟩
          rw [linesL_succ, hse]
          simpa using r2
    · have hk1 : k = P.toNat := by omega
      subst hk1
      obtain ⟨A', cap', rfl, hrd⟩ := hg.out
      go_wp2
      go_ret2
      exact ⟨A', ⟨cap', rfl⟩, hrd, hbw⟩

theorem seen43 (P S s : Int) (w : World) :
    Calls Try.prog 43 #[.agg #[.int .i64 P, .int .i64 S], .int .i64 s] w fun e w' => ∃ (A' : Option Addr) (cap' : Nat), e = .returned (.tuple #[.slice A' (seenL P S s).length cap', .int .i64 (seenE P S s)]) ∧ RdI w' A' (seenL P S s) ∧ Below w.heap.size w w' := by
  cases h1 : verB P S
  · have hL := Lib.hid (seen_1 (s := s) h1)
    have H1 := Lib.hid h1
    clear h1
    go_enter Try.func43, Try.ntmps43
    go_wp2_with fail
    refine (isVernier47 _ _ _).mono ?_
    rw [H1.out]
    rintro e w1 ⟨rfl, hb1⟩
    (have hz1 := hb1.size; (try simp at hz1))
    go_wp2
    go_ret2
    exact ⟨none, 0, by rw [hL.out.1, hL.out.2]; rfl, by rw [hL.out.1]; exact RdI.nil _ _, by (repeat' (first | (with_reducible exact Below.refl _ _) | (with_reducible assumption) | (with_reducible refine Below.drew ?_) | (with_reducible refine below_drewN ?_ _) | (with_reducible refine Below.setCell ?_ ?_ _) | (with_reducible refine Below.alloc ?_ ?_ _) | (refine Below.trans ?_ (Below.mono (by with_reducible assumption) ?_)) | omega | (exact Below.size (by with_reducible assumption)) | (simp; done) | (simp; omega)))⟩
  · cases h2 : btw s 0 10000
    · have hL := Lib.hid (seen_2 h1 h2)
      have H1 := Lib.hid h1
      have H2 := Lib.hid h2
      clear h1 h2
      go_enter Try.func43, Try.ntmps43
      go_wp2_with fail
      refine (isVernier47 _ _ _).mono ?_
      rw [H1.out]
      rintro e w1 ⟨rfl, hb1⟩
      (have hz1 := hb1.size; (try simp at hz1))
      go_wp2_with fail
      refine (within26 _ _ _ _).mono ?_
      rw [H2.out]
      rintro e _ ⟨rfl, rfl⟩
      go_wp2
      go_ret2
      exact ⟨none, 0, by rw [hL.out.1, hL.out.2]; rfl, by rw [hL.out.1]; exact RdI.nil _ _, by (repeat' (first | (with_reducible exact Below.refl _ _) | (with_reducible assumption) | (with_reducible refine Below.drew ?_) | (with_reducible refine below_drewN ?_ _) | (with_reducible refine Below.setCell ?_ ?_ _) | (with_reducible refine Below.alloc ?_ ?_ _) | (refine Below.trans ?_ (Below.mono (by with_reducible assumption) ?_)) | omega | (exact Below.size (by with_reducible assumption)) | (simp; done) | (simp; omega)))⟩
    · have hL := seen_3 h1 h2
      rw [hL.1, hL.2]
      exact seen43_core P S s w h1 h2 (verB_iff.1 h1) (btw_iff.1 h2)

end Go.Proofs.Ytfboiplpfkommaa
