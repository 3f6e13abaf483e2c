/- Walks: is a curve valid? (the program) -/
import Derived.Test.YtphcpphmoeiioaaVA
namespace Go.Proofs.Ytphcpphmoeiioaa
open Go.RowKit

def krow (k : Kn) : List Value := [.int .i64 k.pos, .int .i64 k.lo, .int .i64 k.hi]
theorem rd_kn {w : World} {A : Option Addr} {ks : List Kn} (h : Rd 3 w A (ks.map krow)) {i : Nat} {k : Kn} (hi : ks[i]? = some k) :
    ∃ b off, A = some ⟨b, off, none⟩ ∧ b < w.heap.size ∧ w.cell? ⟨b, off + i * 3, none⟩ = some (.int .i64 k.pos) ∧ w.cell? ⟨b, off + i * 3 + 1, none⟩ = some (.int .i64 k.lo) ∧ w.cell? ⟨b, off + i * 3 + 2, none⟩ = some (.int .i64 k.hi) := by
  obtain ⟨b, off, e, hb, hc⟩ := Rd.elem h (i := i) (r := krow k) (by simp [hi])
  exact ⟨b, off, e, hb, hc 0 _ rfl, hc 1 _ rfl, hc 2 _ rfl⟩
def badN (L : Int) (k : Kn) : Bool := !btw k.pos 0 L || !okS k.lo k.hi
theorem badN_1 {L : Int} {k : Kn} (h : btw k.pos 0 L = false) : badN L k = true := by simp [badN, h]
theorem badN_2 {L : Int} {k : Kn} (h : btw k.pos 0 L = true) : badN L k = !okS k.lo k.hi := by simp [badN, h]

set_option maxHeartbeats 1000000 in
theorem strange68 (p lo hi : Int) (bv : Nat) (L : Int) (w : World) (hv : bv < w.heap.size) (hc : w.cell? ⟨bv, 0, none⟩ = some (.int .i64 L)) :
    Calls Try.prog 68 #[.agg #[.int .i64 p, .int .i64 lo, .int .i64 hi], .pointer (some ⟨bv, 0, none⟩)] w fun e w' => e = .returned (.bool (badN L ⟨p, lo, hi⟩)) ∧ Below w.heap.size w w' := by
  cases h1 : btw p 0 L
  · rw [badN_1 (k := ⟨p, lo, hi⟩) h1]
    have H := Lib.hid h1
    clear h1
    go_enter Try.func68, Try.ntmps68
    go_wp2_with fail
    refine (within66 _ _ _ _).mono ?_
    rw [H.out]
    rintro e w1 ⟨rfl, rfl⟩
    go_wp2
    go_ret
    exact ⟨rfl, by (repeat' (first | (with_reducible exact Below.refl _ _) | (with_reducible assumption) | (with_reducible refine Below.drew ?_) | (with_reducible refine below_drewN ?_ _) | (with_reducible refine Below.setCell ?_ ?_ _) | (with_reducible refine Below.alloc ?_ ?_ _) | (refine Below.trans ?_ (Below.mono (by with_reducible assumption) ?_)) | omega | (exact Below.size (by with_reducible assumption)) | (simp; done) | (simp; omega)))⟩
  · rw [badN_2 (k := ⟨p, lo, hi⟩) h1]
    have H := Lib.hid h1
    clear h1
    go_enter Try.func68, Try.ntmps68
    go_wp2_with fail
    refine (within66 _ _ _ _).mono ?_
    rw [H.out]
    rintro e w1 ⟨rfl, rfl⟩
    go_wp2_with fail
    refine (areHeights69 _ _ _).mono ?_
    rintro e w1 ⟨rfl, hb1⟩
    go_wp2
    go_ret
    exact ⟨rfl, by (repeat' (first | (with_reducible exact Below.refl _ _) | (with_reducible assumption) | (with_reducible refine Below.drew ?_) | (with_reducible refine below_drewN ?_ _) | (with_reducible refine Below.setCell ?_ ?_ _) | (with_reducible refine Below.alloc ?_ ?_ _) | (refine Below.trans ?_ (Below.mono (by with_reducible assumption) ?_)) | omega | (exact Below.size (by with_reducible assumption)) | (simp; done) | (simp; omega)))⟩

set_option maxHeartbeats 1000000 in
theorem index84 (bv : Nat) (A : Option Addr) (ks : List Kn) (n cap : Nat) (L : Int) (w : World) (hA : Rd 3 w A (ks.map krow)) (hn : Hid (n = ks.length)) (hlen : n ≤ 9223372036854775807) (hv : bv < w.heap.size) (hc : w.cell? ⟨bv, 0, none⟩ = some (.int .i64 L)) :
    Calls Try.prog 84 #[.slice A n cap, .func (.func 68) #[] #[.pointer (some ⟨bv, 0, none⟩)]] w fun e w' => ∃ q : Int, Hid (decide (0 ≤ q) = ks.any (badN L)) ∧ e = .returned (.int .i64 q) ∧ Below w.heap.size w w' := by
  have HA := Lib.hid hA
  have HC := Lib.hid hc
  clear hA hc
  go_enter Try.func84, Try.ntmps84
  go_wp2
  go_loopw [8] (fun i wr => ∃ k : Nat, k ≤ n ∧ i = .int .i64 k ∧ Hid ((ks.take k).any (badN L) = false) ∧ Below w.heap.size w wr) (fun i _ => n - (intOf i).toNat)
  case atStart => exact ⟨0, Nat.zero_le _, rfl, by simp [Hid], Below.refl _ _⟩
  case round =>
    obtain ⟨k, hk, rfl, hno, hbw⟩ := hrel
    by_cases hlt : k < n
    · obtain ⟨g, hg⟩ : ∃ g, Hid (ks[k]? = some g) := ⟨ks[k]'(by have := hn.out; omega), by simp [Hid]⟩
      obtain ⟨b, off, rfl, hb, hc0, hc1, hc2⟩ := rd_kn (HA.out.below hbw (Nat.le_refl _)) hg.out
      have hvr : bv < wr.heap.size := Nat.lt_of_lt_of_le hv hbw.size
      have HCr : Hid (wr.cell? ⟨bv, 0, none⟩ = some (.int .i64 L)) := (hbw.cell (p := ⟨bv, 0, none⟩) hv).trans HC.out
      go_wp2_with fail
      refine (strange68 g.pos g.lo g.hi bv L _ hvr HCr.out).mono ?_
      cases hs : badN L ⟨g.pos, g.lo, g.hi⟩
      · rintro e w1 ⟨rfl, hb1⟩
        have hs' := Lib.hid hs
        clear hs
        go_wp2
        go_roundw
        case rel =>
          refine ⟨k + 1, by omega, by go_num, ?_, by (repeat' (first | (with_reducible exact Below.refl _ _) | (with_reducible assumption) | (with_reducible refine Below.drew ?_) | (with_reducible refine below_drewN ?_ _) | (with_reducible refine Below.setCell ?_ ?_ _) | (with_reducible refine Below.alloc ?_ ?_ _) | (refine Below.trans ?_ (Below.mono (by with_reducible assumption) ?_)) | omega | (exact Below.size (by with_reducible assumption)) | (simp; done) | (simp; omega)))⟩
          show (ks.take (k + 1)).any _ = false
          rw [take_snoc hg.out, List.any_append, hno.out]
          simp only [List.any_cons, List.any_nil, Bool.or_false, Bool.false_or]
          exact hs'.out
        case measure => simp only [intOf]; omega
      · rintro e w1 ⟨rfl, hb1⟩
        have hs' := Lib.hid hs
        clear hs
        go_wp2
        go_ret
        refine ⟨(k : Int), ?_, rfl, by (repeat' (first | (with_reducible exact Below.refl _ _) | (with_reducible assumption) | (with_reducible refine Below.drew ?_) | (with_reducible refine below_drewN ?_ _) | (with_reducible refine Below.setCell ?_ ?_ _) | (with_reducible refine Below.alloc ?_ ?_ _) | (refine Below.trans ?_ (Below.mono (by with_reducible assumption) ?_)) | omega | (exact Below.size (by with_reducible assumption)) | (simp; done) | (simp; omega)))⟩
        show decide ((0 : Int) ≤ k) = ks.any _
        rw [decide_eq_true (by omega)]
        refine (List.any_eq_true.2 ⟨g, List.mem_of_getElem? hg.out, hs'.out⟩).symm
    · go_wp2
      go_ret
      refine ⟨-1, ?_, rfl, hbw⟩
      show decide ((0 : Int) ≤ -1) = ks.any _
      have h := hno.out
      rw [List.take_of_length_le (by have := hn.out; omega)] at h
      rw [h]; rfl
set_option maxHeartbeats 1000000 in
theorem contains70 (bv : Nat) (A : Option Addr) (ks : List Kn) (n cap : Nat) (L : Int) (w : World) (hA : Rd 3 w A (ks.map krow)) (hn : Hid (n = ks.length)) (hlen : n ≤ 9223372036854775807) (hv : bv < w.heap.size) (hc : w.cell? ⟨bv, 0, none⟩ = some (.int .i64 L)) :
    Calls Try.prog 70 #[.slice A n cap, .func (.func 68) #[] #[.pointer (some ⟨bv, 0, none⟩)]] w fun e w' => e = .returned (.bool (ks.any (badN L))) ∧ Below w.heap.size w w' := by
  have HA := Lib.hid hA
  have HC := Lib.hid hc
  clear hA hc
  go_enter Try.func70, Try.ntmps70
  go_wp2_with fail
  refine (index84 bv A ks n cap L w HA.out hn hlen hv HC.out).mono ?_
  rintro e w1 ⟨q, hq, rfl, hb1⟩
  go_wp2
  go_ret
  exact ⟨ret_bool hq.out, hb1⟩
end Go.Proofs.Ytphcpphmoeiioaa
