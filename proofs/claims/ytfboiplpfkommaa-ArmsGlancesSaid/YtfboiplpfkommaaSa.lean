/- Walks: Seen of the program: the iterator over lines, collected. -/
import Derived.Test.YtfboiplpfkommaaWn
import Derived.Test.YtfboiplpfkommaaWo
import Derived.Test.YtfboiplpfkommaaColl
import Derived.RangeFuncBound
import Derived.RangeFuncCalls
import Derived.RangeFuncLeaves
import Derived.OwnWalkIn
import Derived.TacticsInMore
import Derived.LoopIn
namespace Go.Proofs.Ytfboiplpfkommaa
open Go.RowKit Go.Shelf

def iOf : Value → Int
  | .int _ q => q
  | _ => 0
theorem grown_of_below {W W' : World} (h : Below W.heap.size W W') : W.grownBy W' none :=
  ⟨h.os, h.tape, h.output, h.size, fun k hk _ => h.block k hk⟩

set_option maxRecDepth 100000 in
set_option maxHeartbeats 2000000 in
theorem lines86 (P S s : Int) (hP : 2 ≤ P) (hP' : P ≤ 50) (hs : 0 ≤ s) (hs' : s ≤ 10000) (B0 B1 : Nat) (w : World) (n : Nat) (hn : 2 ≤ n)
    (h0 : Own w B0 [.int .i64 P, .int .i64 S]) (h1 : Own w B1 [.int .i64 s]) :
    SeqB Fence.wide n Try.prog 86 #[.pointer (some ⟨B0, 0, none⟩), .pointer (some ⟨B1, 0, none⟩)] (fun ls => ls = linesL P S s P.toNat) 50 w := by
  intro l J W hW hJ hY hJB hJ0
  have f83 : Fence.wide.fn 83 := trivial
  have n1 : 1 ≤ n := by omega
  refine callsIn_of_wp Try.func86 rfl trivial ?_ rfl
  simp only [Try.ntmps86, List.size_toArray, List.length_cons, List.length_nil, Nat.reduceAdd, Nat.reduceSub, Array.replicate_succ, Array.replicate_zero, List.push_toArray, List.append_toArray, List.nil_append, List.cons_append]
  obtain ⟨l0, c0, g0⟩ := h0.below hW h0.lt
  gi_wp2
  have hlin : ∀ k : Nat, (linesL P S s k).length ≤ k := linesL_len P S s
  gi_loopw [7] (fun v wr => ∃ k : Nat, v = .int .i64 k ∧ (k : Int) ≤ P ∧ J (linesL P S s k) wr) (fun v _ => (P - iOf v).toNat)
  case atStart => exact ⟨0, rfl, by omega, hJ0⟩
  case round =>
    obtain ⟨k, rfl, hk, hJk⟩ := hrel
    have hB := hJB _ _ hJk
    obtain ⟨m0, d0, e0⟩ := h0.below hB h0.lt
    obtain ⟨m1, d1, e1⟩ := h1.below hB h1.lt
    by_cases hkP : (k : Int) < P
    · cases hse : seemsB P S s k
      · have HS := Lib.hid hse
        gi_wp2_with (gi_at_call 83; refine (callsIn_wide.2 (seems83 P S s k _ hP hP' hs hs' (by omega) hkP)).mono ?_; rw [HS.out]; rintro e w2 ⟨rfl, hb2⟩)
        refine ⟨fun _ h => (by cases h), ?_⟩
        gi_wp2
        go_roundw
        case measure => simp only [iOf]; omega
        case rel =>
          refine ⟨k + 1, by go_num, by omega, ?_⟩
          rw [linesL_succ, hse]
          simpa using hJ _ _ _ none hJk (grown_of_below hb2) (fun r e => by cases e)
      · have HS := Lib.hid hse
        gi_wp2_with (gi_at_call 83; refine (callsIn_wide.2 (seems83 P S s k _ hP hP' hs hs' (by omega) hkP)).mono ?_; rw [HS.out]; rintro e w2 ⟨rfl, hb2⟩)
        have hJ2 : J (linesL P S s k) w2 := hJ _ _ _ none hJk (grown_of_below hb2) (fun r e => by cases e)
        obtain ⟨fn, tmps, assign, body, hy, hR⟩ := hY (linesL P S s k) k w2 hJ2 (by have := hlin k; omega)
        dsimp only [encZ] at hy
        gi_wp2
        rw [hy]
        gi_wp2
        refine hR.mono ?_
        rintro e W3 ⟨rfl, hJ3, hk3⟩
        clear hk3
        gi_wp2
        go_roundw
        case measure => simp only [iOf]; omega
        case rel =>
          refine ⟨k + 1, by go_num, by omega, ?_⟩
          rw [linesL_succ, hse]
          exact hJ3
    · obtain rfl : P = (k : Int) := by omega
      gi_wp2
      go_end0
      exact ⟨⟨_, rfl⟩, hJk⟩

/-- What the program makes of a vernier and a number of steps: the iterator. -/
theorem lines79 (P S s : Int) (w : World) :
    Calls Try.prog 79 #[.agg #[.int .i64 P, .int .i64 S], .int .i64 s] w fun e w' => e = .returned (.func (.func 86) #[] #[.pointer (some ⟨w.heap.size, 0, none⟩), .pointer (some ⟨w.heap.size + 1, 0, none⟩)]) ∧ w' = (w.alloc (.cells #[.int .i64 P, .int .i64 S] 63)).alloc (.cells #[.int .i64 s] 3) := by
  go_enter Try.func79, Try.ntmps79
  go_wp2
  go_ret
  exact ⟨rfl, rfl⟩

set_option maxRecDepth 100000 in
set_option maxHeartbeats 2000000 in
theorem collect78 (P S s : Int) (hP : 2 ≤ P) (hP' : P ≤ 50) (hs : 0 ≤ s) (hs' : s ≤ 10000) (B0 B1 : Nat) (w : World)
    (h0 : Own w B0 [.int .i64 P, .int .i64 S]) (h1 : Own w B1 [.int .i64 s]) :
    Calls Try.prog 78 #[.func (.func 86) #[] #[.pointer (some ⟨B0, 0, none⟩), .pointer (some ⟨B1, 0, none⟩)]] w fun e w' => ∃ (A' : Option Addr) (cap' : Nat), e = .returned (.slice A' (linesL P S s P.toNat).length cap') ∧ RdI w' A' (linesL P S s P.toNat) ∧ Below w.heap.size w w' := by
  have key : ∀ W, Own W B0 [.int .i64 P, .int .i64 S] → Own W B1 [.int .i64 s] → Calls Try.prog 85 #[.slice none 0 0, .func (.func 86) #[] #[.pointer (some ⟨B0, 0, none⟩), .pointer (some ⟨B1, 0, none⟩)]] W fun e w' => ∃ (A' : Option Addr) (cap' : Nat), e = .returned (.slice A' (linesL P S s P.toNat).length cap') ∧ RdI w' A' (linesL P S s P.toNat) ∧ Below W.heap.size W w' := fun W g0 g1 => by
    have h := appendSeqB (P := Try.prog) (ρ := collRen) collLay11 Fence.wide 5 trivial rfl (by omega) 86 #[.pointer (some ⟨B0, 0, none⟩), .pointer (some ⟨B1, 0, none⟩)] trivial (enters_of Try.func86 (by kernel_rfl) rfl)
      (fun ls => ls = linesL P S s P.toNat) 50 (by unfold maxLen; omega) (by omega) W (lines86 P S s hP hP' hs hs' B0 B1 W 4 (by omega) g0 g1)
    refine (callsIn_wide.1 h).mono ?_
    rintro e w' ⟨v, ss, rfl, rfl, hrow, _, hb⟩
    have hg : Gro w' W.heap.size 3 1 v ((linesL P S s P.toNat).map irow) := by
      refine ⟨fun r hr => ?_, ?_⟩
      · obtain ⟨x, _, rfl⟩ := List.mem_map.1 hr; rfl
      · have e : ((linesL P S s P.toNat).map irow).flatten = (linesL P S s P.toNat).map encZ := by
          generalize linesL P S s P.toNat = L
          induction L with
          | nil => rfl
          | cons a L ih => rw [List.map_cons, List.flatten_cons, ih]; rfl
        rw [e, List.length_map]
        exact hrow
    obtain ⟨A, cap, rfl, hr⟩ := hg.out
    exact ⟨A, cap, by rw [List.length_map], hr, hb⟩
  go_enter Try.func78, Try.ntmps78
  go_wp2_with fail
  refine (key _ h0 h1).mono ?_
  rintro e w2 ⟨A', cap', rfl, hr, hb2⟩
  go_wp2
  go_ret
  exact ⟨A', cap', rfl, hr, hb2⟩

theorem seen_1 {P S s : Int} (h : verB P S = false) : seenL P S s = [] ∧ seenE P S s = 12 := by simp [seenL, seenE, h]
theorem seen_2 {P S s : Int} (h : verB P S = true) (k : btw s 0 10000 = false) : seenL P S s = [] ∧ seenE P S s = 1 := by simp [seenL, seenE, h, k]
theorem seen_3 {P S s : Int} (h : verB P S = true) (k : btw s 0 10000 = true) : seenL P S s = linesL P S s P.toNat ∧ seenE P S s = 0 := by simp [seenL, seenE, h, k]
set_option maxRecDepth 100000 in
set_option maxHeartbeats 2000000 in
theorem seen42 (P S s : Int) (w : World) :
    Calls Try.prog 42 #[.agg #[.int .i64 P, .int .i64 S], .int .i64 s] w fun e w' => ∃ (A' : Option Addr) (cap' : Nat), e = .returned (.tuple #[.slice A' (seenL P S s).length cap', .int .i64 (seenE P S s)]) ∧ RdI w' A' (seenL P S s) ∧ Below w.heap.size w w' := by
  cases h1 : verB P S
  · have hL := Lib.hid (seen_1 (s := s) h1)
    have H1 := Lib.hid h1
    clear h1
    go_enter Try.func42, Try.ntmps42
    go_wp2_with fail
    refine (isVernier77 _ _ _).mono ?_
    rw [H1.out]
    rintro e w1 ⟨rfl, hb1⟩
    (have hz1 := hb1.size; (try simp at hz1))
    go_wp2
    go_ret2
    exact ⟨none, 0, by rw [hL.out.1, hL.out.2]; rfl, by rw [hL.out.1]; exact RdI.nil _ _, by (repeat' (first | (with_reducible exact Below.refl _ _) | (with_reducible assumption) | (with_reducible refine Below.drew ?_) | (with_reducible refine below_drewN ?_ _) | (with_reducible refine Below.setCell ?_ ?_ _) | (with_reducible refine Below.alloc ?_ ?_ _) | (refine Below.trans ?_ (Below.mono (by with_reducible assumption) ?_)) | omega | (exact Below.size (by with_reducible assumption)) | (simp; done) | (simp; omega)))⟩
  · cases h2 : btw s 0 10000
    · have hL := Lib.hid (seen_2 h1 h2)
      have H1 := Lib.hid h1
      have H2 := Lib.hid h2
      clear h1 h2
      go_enter Try.func42, Try.ntmps42
      go_wp2_with fail
      refine (isVernier77 _ _ _).mono ?_
      rw [H1.out]
      rintro e w1 ⟨rfl, hb1⟩
      (have hz1 := hb1.size; (try simp at hz1))
      go_wp2_with fail
      refine (within53 _ _ _ _).mono ?_
      rw [H2.out]
      rintro e _ ⟨rfl, rfl⟩
      go_wp2
      go_ret2
      exact ⟨none, 0, by rw [hL.out.1, hL.out.2]; rfl, by rw [hL.out.1]; exact RdI.nil _ _, by (repeat' (first | (with_reducible exact Below.refl _ _) | (with_reducible assumption) | (with_reducible refine Below.drew ?_) | (with_reducible refine below_drewN ?_ _) | (with_reducible refine Below.setCell ?_ ?_ _) | (with_reducible refine Below.alloc ?_ ?_ _) | (refine Below.trans ?_ (Below.mono (by with_reducible assumption) ?_)) | omega | (exact Below.size (by with_reducible assumption)) | (simp; done) | (simp; omega)))⟩
    · have hL := Lib.hid (seen_3 h1 h2)
      have hP := verB_iff.1 h1
      have hs := btw_iff.1 h2
      have H1 := Lib.hid h1
      have H2 := Lib.hid h2
      clear h1 h2
      go_enter Try.func42, Try.ntmps42
      go_wp2_with fail
      refine (isVernier77 _ _ _).mono ?_
      rw [H1.out]
      rintro e w1 ⟨rfl, hb1⟩
      (have hz1 := hb1.size; (try simp at hz1); have hc1_0 := fun o => (bcell hb1).1 (w.heap.size) o (by first | omega | (simp; done) | (simp; omega)); have hf1_0 := fun o => (bcell hb1).2 (w.heap.size) o (by first | omega | (simp; done) | (simp; omega)); have : w.heap.size < w1.heap.size := (by first | omega | (simp; done) | (simp; omega)); have : w.heap.size < w1.heap.size + 1 := (by first | omega | (simp; done) | (simp; omega)); have : w.heap.size < w1.heap.size + 2 := (by first | omega | (simp; done) | (simp; omega)); have : w.heap.size < w1.heap.size + 3 := (by first | omega | (simp; done) | (simp; omega)))
      go_wp2_with fail
      refine (within53 _ _ _ _).mono ?_
      rw [H2.out]
      rintro e _ ⟨rfl, rfl⟩
      go_wp2_with fail
      refine (lines79 _ _ _ _).mono ?_
      rintro e _ ⟨rfl, rfl⟩
      go_wp2_with fail
      refine (collect78 P S s hP.1.1 hP.1.2 hs.1 hs.2 _ _ _ ((Own.new' _ _ rfl rfl).alloc _) (Own.new' _ _ (by simp) rfl)).mono ?_
      rintro e w2 ⟨A', cap', rfl, hr, hb2⟩
      go_wp2
      go_ret2
      exact ⟨A', cap', by rw [hL.out.1, hL.out.2]; rfl, by rw [hL.out.1]; exact hr, by (repeat' (first | (with_reducible exact Below.refl _ _) | (with_reducible assumption) | (with_reducible refine Below.drew ?_) | (with_reducible refine below_drewN ?_ _) | (with_reducible refine Below.setCell ?_ ?_ _) | (with_reducible refine Below.alloc ?_ ?_ _) | (refine Below.trans ?_ (Below.mono (by with_reducible assumption) ?_)) | omega | (exact Below.size (by with_reducible assumption)) | (simp; done) | (simp; omega)))⟩

end Go.Proofs.Ytfboiplpfkommaa
