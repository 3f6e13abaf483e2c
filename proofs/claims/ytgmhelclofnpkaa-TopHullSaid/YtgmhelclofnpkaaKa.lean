/- Walks of the leaf functions of the polygons: points, turns, sides. -/
import Derived.Test.YtgmhelclofnpkaaProg
import Derived.Test.YtgmhelclofnpkaaPl
import Derived.Test.YtgmhelclofnpkaaKit
namespace Go.Proofs.Ytgmhelclofnpkaa
open Go.RowKit

def ptrow (p : P2) : List Value := [.int .i64 p.1, .int .i64 p.2]
abbrev ptV (p : P2) : Value := .agg #[.int .i64 p.1, .int .i64 p.2]
abbrev sdV (a b : P2) : Value := .agg #[.int .i64 a.1, .int .i64 a.2, .int .i64 b.1, .int .i64 b.2]
theorem rd_p2 {w : World} {A : Option Addr} {ps : List P2} (h : Rd 2 w A (ps.map ptrow)) {i : Nat} {p : P2} (hi : ps[i]? = some p) :
    ∃ b off, A = some ⟨b, off, none⟩ ∧ b < w.heap.size ∧ w.cell? ⟨b, off + i * 2, none⟩ = some (.int .i64 p.1) ∧ w.cell? ⟨b, off + i * 2 + 1, none⟩ = some (.int .i64 p.2) := by
  obtain ⟨b, off, e, hb, hc⟩ := Rd.elem h (i := i) (r := ptrow p) (by simp [hi])
  exact ⟨b, off, e, hb, hc 0 _ rfl, hc 1 _ rfl⟩
set_option maxHeartbeats 400000 in
theorem cwithin (n lo hi : Int) (w : World) :
    Calls Try.prog 84 #[.int .i64 n, .int .i64 lo, .int .i64 hi] w fun e w' => e = .returned (.bool (btw n lo hi)) ∧ w = w' := by
  go_enter Try.func84, Try.ntmps84
  go_wp2
  all_goals go_ret
  · exact ⟨ret_bool (btw_t ‹_›).symm, rfl⟩
  · exact ⟨ret_bool (btw_f ‹_›).symm, rfl⟩
theorem isP_t {x y : Int} (h : btw x (-200) 200 = true) : Pl.isP (x, y) = btw y (-200) 200 := by simp [Pl.isP, h]
theorem isP_f {x y : Int} (h : btw x (-200) 200 = false) : Pl.isP (x, y) = false := by simp [Pl.isP, h]
set_option maxHeartbeats 400000 in
theorem isPoint (x y : Int) (w : World) :
    Calls Try.prog 49 #[.agg #[.int .i64 x, .int .i64 y]] w fun e w' => e = .returned (.bool (Pl.isP (x, y))) ∧ Below w.heap.size w w' := by
  cases h : btw x (-200) 200
  · rw [isP_f h]
    have H := Lib.hid h
    clear h
    go_enter Try.func49, Try.ntmps49
    go_wp2_with fail
    refine (cwithin _ _ _ _).mono ?_
    rw [H.out]
    rintro e w1 ⟨rfl, rfl⟩
    go_wp2
    go_ret
    exact ⟨rfl, by (repeat' (first | (with_reducible exact Below.refl _ _) | (with_reducible assumption) | (with_reducible refine Below.drew ?_) | (with_reducible refine below_drewN ?_ _) | (with_reducible refine Below.setCell ?_ ?_ _) | (with_reducible refine Below.alloc ?_ ?_ _) | (refine Below.trans ?_ (Below.mono (by with_reducible assumption) ?_)) | omega | (exact Below.size (by with_reducible assumption)) | (simp; done) | (simp; omega)))⟩
  · rw [isP_t h]
    have H := Lib.hid h
    clear h
    go_enter Try.func49, Try.ntmps49
    go_wp2_with fail
    refine (cwithin _ _ _ _).mono ?_
    rw [H.out]
    rintro e w1 ⟨rfl, rfl⟩
    go_wp2_with fail
    refine (cwithin _ _ _ _).mono ?_
    rintro e w1 ⟨rfl, rfl⟩
    go_wp2
    go_ret
    exact ⟨rfl, by (repeat' (first | (with_reducible exact Below.refl _ _) | (with_reducible assumption) | (with_reducible refine Below.drew ?_) | (with_reducible refine below_drewN ?_ _) | (with_reducible refine Below.setCell ?_ ?_ _) | (with_reducible refine Below.alloc ?_ ?_ _) | (refine Below.trans ?_ (Below.mono (by with_reducible assumption) ?_)) | omega | (exact Below.size (by with_reducible assumption)) | (simp; done) | (simp; omega)))⟩
set_option maxHeartbeats 400000 in
theorem cCheck1 (x y : Int) (w : World) :
    Calls Try.prog 85 #[.agg #[.int .i64 x, .int .i64 y]] w fun e w' => e = .returned (.bool (!Pl.isP (x, y))) ∧ Below w.heap.size w w' := by
  go_enter Try.func85, Try.ntmps85
  go_wp2_with fail
  refine (isPoint _ _ _).mono ?_
  rintro e w1 ⟨rfl, hb1⟩
  go_wp2
  go_ret
  exact ⟨rfl, by (repeat' (first | (with_reducible exact Below.refl _ _) | (with_reducible assumption) | (with_reducible refine Below.drew ?_) | (with_reducible refine below_drewN ?_ _) | (with_reducible refine Below.setCell ?_ ?_ _) | (with_reducible refine Below.alloc ?_ ?_ _) | (refine Below.trans ?_ (Below.mono (by with_reducible assumption) ?_)) | omega | (exact Below.size (by with_reducible assumption)) | (simp; done) | (simp; omega)))⟩
set_option maxHeartbeats 1000000 in
theorem ifPt (A : Option Addr) (ps : List P2) (n cap : Nat) (w : World) (hA : Rd 2 w A (ps.map ptrow)) (hn : Hid (n = ps.length)) (hlen : n ≤ 9223372036854775807) :
    Calls Try.prog 93 #[.slice A n cap, .func (.func 85) #[] #[]] w fun e w' => ∃ q : Int, Hid (decide (0 ≤ q) = ps.any (fun p => !Pl.isP p)) ∧ e = .returned (.int .i64 q) ∧ Below w.heap.size w w' := by
  have HA := Lib.hid hA
  clear hA
  go_enter Try.func93, Try.ntmps93
  go_wp2
  go_loopw [8] (fun i wr => ∃ k : Nat, k ≤ n ∧ i = .int .i64 k ∧ Hid ((ps.take k).any (fun p => !Pl.isP p) = false) ∧ Below w.heap.size w wr) (fun i _ => n - (intOf i).toNat)
  case atStart => exact ⟨0, Nat.zero_le _, rfl, by simp [Hid], Below.refl _ _⟩
  case round =>
    obtain ⟨k, hk, rfl, hno, hbw⟩ := hrel
    by_cases hlt : k < n
    · obtain ⟨g, hg⟩ : ∃ g, Hid (ps[k]? = some g) := ⟨ps[k]'(by have := hn.out; omega), by simp [Hid]⟩
      obtain ⟨b, off, rfl, hb, hc0, hc1⟩ := rd_p2 (HA.out.below hbw (Nat.le_refl _)) hg.out
      go_wp2_with fail
      refine (cCheck1 g.1 g.2 _).mono ?_
      cases hs : Pl.isP (g.1, g.2)
      · rintro e w1 ⟨rfl, hb1⟩
        have hs' := Lib.hid hs
        clear hs
        go_wp2
        go_ret
        refine ⟨(k : Int), ?_, rfl, by (repeat' (first | (with_reducible exact Below.refl _ _) | (with_reducible assumption) | (with_reducible refine Below.drew ?_) | (with_reducible refine below_drewN ?_ _) | (with_reducible refine Below.setCell ?_ ?_ _) | (with_reducible refine Below.alloc ?_ ?_ _) | (refine Below.trans ?_ (Below.mono (by with_reducible assumption) ?_)) | omega | (exact Below.size (by with_reducible assumption)) | (simp; done) | (simp; omega)))⟩
        show decide ((0 : Int) ≤ k) = ps.any _
        rw [decide_eq_true (by omega)]
        refine (List.any_eq_true.2 ⟨g, List.mem_of_getElem? hg.out, ?_⟩).symm
        show (!Pl.isP (g.1, g.2)) = true
        rw [hs'.out]; rfl
      · rintro e w1 ⟨rfl, hb1⟩
        have hs' := Lib.hid hs
        clear hs
        go_wp2
        go_roundw
        case rel =>
          refine ⟨k + 1, by omega, by go_num, ?_, by (repeat' (first | (with_reducible exact Below.refl _ _) | (with_reducible assumption) | (with_reducible refine Below.drew ?_) | (with_reducible refine below_drewN ?_ _) | (with_reducible refine Below.setCell ?_ ?_ _) | (with_reducible refine Below.alloc ?_ ?_ _) | (refine Below.trans ?_ (Below.mono (by with_reducible assumption) ?_)) | omega | (exact Below.size (by with_reducible assumption)) | (simp; done) | (simp; omega)))⟩
          show (ps.take (k + 1)).any _ = false
          rw [take_snoc hg.out, List.any_append, hno.out]
          simp only [List.any_cons, List.any_nil, Bool.or_false, Bool.false_or]
          show (!Pl.isP (g.1, g.2)) = false
          rw [hs'.out]; rfl
        case measure => simp only [intOf]; omega
    · go_wp2
      go_ret
      refine ⟨-1, ?_, rfl, hbw⟩
      show decide ((0 : Int) ≤ -1) = ps.any _
      have h := hno.out
      rw [List.take_of_length_le (by have := hn.out; omega)] at h
      rw [h]; rfl
set_option maxHeartbeats 1000000 in
theorem cfPt (A : Option Addr) (ps : List P2) (n cap : Nat) (w : World) (hA : Rd 2 w A (ps.map ptrow)) (hn : Hid (n = ps.length)) (hlen : n ≤ 9223372036854775807) :
    Calls Try.prog 47 #[.slice A n cap, .func (.func 85) #[] #[]] w fun e w' => e = .returned (.bool (ps.any (fun p => !Pl.isP p))) ∧ Below w.heap.size w w' := by
  have HA := Lib.hid hA
  clear hA
  go_enter Try.func47, Try.ntmps47
  go_wp2_with fail
  refine (ifPt A ps n cap w HA.out hn hlen).mono ?_
  rintro e w1 ⟨q, hq, rfl, hb1⟩
  go_wp2
  go_ret
  exact ⟨ret_bool hq.out, hb1⟩
set_option maxHeartbeats 1000000 in
theorem turnW (ax ay bx by' cx cy : Int) (w : World) (ha : Pl.isP (ax, ay) = true) (hb : Pl.isP (bx, by') = true) (hc : Pl.isP (cx, cy) = true) :
    Calls Try.prog 56 #[.agg #[.int .i64 ax, .int .i64 ay], .agg #[.int .i64 bx, .int .i64 by'], .agg #[.int .i64 cx, .int .i64 cy]] w fun e w' => e = .returned (.int .i64 (Pl.turn (ax, ay) (bx, by') (cx, cy))) ∧ Below w.heap.size w w' := by
  have h1 := Pl.turn_bd ha hb hc
  have i1 := Pl.isP_iff.1 ha
  have i2 := Pl.isP_iff.1 hb
  have i3 := Pl.isP_iff.1 hc
  simp only at h1 i1 i2 i3
  clear ha hb hc
  unfold Pl.turn
  simp only
  go_enter Try.func56, Try.ntmps56
  go_wp2
  go_ret
  exact ⟨rfl, by (repeat' (first | (with_reducible exact Below.refl _ _) | (with_reducible assumption) | (with_reducible refine Below.drew ?_) | (with_reducible refine below_drewN ?_ _) | (with_reducible refine Below.setCell ?_ ?_ _) | (with_reducible refine Below.alloc ?_ ?_ _) | (refine Below.trans ?_ (Below.mono (by with_reducible assumption) ?_)) | omega | (exact Below.size (by with_reducible assumption)) | (simp; done) | (simp; omega)))⟩
end Go.Proofs.Ytgmhelclofnpkaa
