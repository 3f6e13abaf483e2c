/- Walks: how many knots at a place are wrong with a height. -/
import Derived.Test.YtphcpphmoeiioaaVB
import Derived.Deep.LoopGhost
namespace Go.Proofs.Ytphcpphmoeiioaa
open Go.RowKit

theorem wrs_le (ks : List Kn) (p x : Int) : wrs ks p x ≤ ks.length := List.countP_le_length
theorem wrs_snoc {ks : List Kn} {k : Nat} {g : Kn} (h : ks[k]? = some g) (p x : Int) : wrs (ks.take (k + 1)) p x = wrs (ks.take k) p x + if badK p x g = true then 1 else 0 := by
  unfold wrs
  rw [take_snoc h, List.countP_append, List.countP_cons, List.countP_nil]; omega
theorem badK_1 {p x : Int} {g : Kn} (h : g.pos ≠ p) : badK p x g = false := by simp [badK, h]
theorem badK_2 {p x : Int} {g : Kn} (h : g.pos = p) : badK p x g = !btw x g.lo g.hi := by simp [badK, btw, h]
set_option maxHeartbeats 2000000 in
theorem wrongs89 (L sl rl rh wr : Int) (A : Option Addr) (n cap : Nat) (ks : List Kn) (p x : Int) (fv : Value) (w : World) (hA : Rd 3 w A (ks.map krow)) (hn : Hid (n = ks.length)) (hlen : n ≤ 9223372036854775807) :
    Calls Try.prog 89 #[.agg #[.int .i64 L, .int .i64 sl, .int .i64 rl, .int .i64 rh, .slice A n cap, .int .i64 wr, fv], .int .i64 p, .int .i64 x] w fun e w' => e = .returned (.int .i64 (wrs ks p x : Nat)) ∧ Below w.heap.size w w' := by
  have HA := Lib.hid hA
  clear hA
  go_enter Try.func89, Try.ntmps89
  go_wp2
  go_loopg [7, 14] n (fun K v y wr => ∃ k : Nat, K + k = n ∧ y = .int .i64 k ∧ v = .int .i64 (wrs (ks.take k) p x : Nat) ∧ Below w.heap.size w wr)
  case atStart => exact ⟨0, rfl, rfl, rfl, by (repeat' (first | (with_reducible exact Below.refl _ _) | (with_reducible assumption) | (with_reducible refine Below.drew ?_) | (with_reducible refine below_drewN ?_ _) | (with_reducible refine Below.setCell ?_ ?_ _) | (with_reducible refine Below.alloc ?_ ?_ _) | (refine Below.trans ?_ (Below.mono (by with_reducible assumption) ?_)) | omega | (exact Below.size (by with_reducible assumption)) | (simp; done) | (simp; omega)))⟩
  case round =>
    obtain ⟨k, hk, rfl, rfl, hbw⟩ := hrel
    have hw : wrs (ks.take k) p x ≤ k := by have := wrs_le (ks.take k) p x; simp at this; omega
    by_cases hlt : k < n
    · obtain ⟨g, hg⟩ : ∃ g, Hid (ks[k]? = some g) := ⟨ks[k]'(by have := hn.out; omega), by simp [Hid]⟩
      obtain ⟨b, off, rfl, hb, hc0, hc1, hc2⟩ := rd_kn (HA.out.below hbw (Nat.le_refl _)) hg.out
      have hs := Lib.hid (wrs_snoc hg.out p x)
      by_cases he : g.pos = p
      · have hb2 := Lib.hid (badK_2 (x := x) he)
        subst he
        cases hq : btw x g.lo g.hi
        · have hq' : Hid ((wrs (ks.take (k + 1)) g.pos x : Int) = (wrs (ks.take k) g.pos x : Int) + 1) := by
            show _ = _
            rw [hs.out, hb2.out, hq]; simp
          have H := Lib.hid hq
          clear hq hs hb2
          go_wp2_with fail
          refine (within66 _ _ _ _).mono ?_
          rw [H.out]
          rintro e w3 ⟨rfl, rfl⟩
          go_wp2
          go_roundg (n - (k + 1))
          case measure => omega
          case rel => exact ⟨k + 1, by omega, by go_num, by rw [hq'.out], by (repeat' (first | (with_reducible exact Below.refl _ _) | (with_reducible assumption) | (with_reducible refine Below.drew ?_) | (with_reducible refine below_drewN ?_ _) | (with_reducible refine Below.setCell ?_ ?_ _) | (with_reducible refine Below.alloc ?_ ?_ _) | (refine Below.trans ?_ (Below.mono (by with_reducible assumption) ?_)) | omega | (exact Below.size (by with_reducible assumption)) | (simp; done) | (simp; omega)))⟩
        · have hq' : Hid ((wrs (ks.take (k + 1)) g.pos x : Int) = (wrs (ks.take k) g.pos x : Int)) := by
            show _ = _
            rw [hs.out, hb2.out, hq]; simp
          have H := Lib.hid hq
          clear hq hs hb2
          go_wp2_with fail
          refine (within66 _ _ _ _).mono ?_
          rw [H.out]
          rintro e w3 ⟨rfl, rfl⟩
          go_wp2
          go_roundg (n - (k + 1))
          case measure => omega
          case rel => exact ⟨k + 1, by omega, by go_num, by rw [hq'.out], by (repeat' (first | (with_reducible exact Below.refl _ _) | (with_reducible assumption) | (with_reducible refine Below.drew ?_) | (with_reducible refine below_drewN ?_ _) | (with_reducible refine Below.setCell ?_ ?_ _) | (with_reducible refine Below.alloc ?_ ?_ _) | (refine Below.trans ?_ (Below.mono (by with_reducible assumption) ?_)) | omega | (exact Below.size (by with_reducible assumption)) | (simp; done) | (simp; omega)))⟩
      · have hq' : Hid ((wrs (ks.take (k + 1)) p x : Int) = (wrs (ks.take k) p x : Int)) := by
          show _ = _
          rw [hs.out, badK_1 he]; simp
        clear hs
        go_wp2
        go_roundg (n - (k + 1))
        case measure => omega
        case rel => exact ⟨k + 1, by omega, by go_num, by rw [hq'.out], by (repeat' (first | (with_reducible exact Below.refl _ _) | (with_reducible assumption) | (with_reducible refine Below.drew ?_) | (with_reducible refine below_drewN ?_ _) | (with_reducible refine Below.setCell ?_ ?_ _) | (with_reducible refine Below.alloc ?_ ?_ _) | (refine Below.trans ?_ (Below.mono (by with_reducible assumption) ?_)) | omega | (exact Below.size (by with_reducible assumption)) | (simp; done) | (simp; omega)))⟩
    · obtain rfl : k = n := by omega
      have e1 : Hid (wrs (ks.take k) p x = wrs ks p x) := by
        show _ = _
        rw [List.take_of_length_le (by have := hn.out; omega)]
      go_wp2
      go_ret
      exact ⟨ret_int (by rw [e1.out]), by (repeat' (first | (with_reducible exact Below.refl _ _) | (with_reducible assumption) | (with_reducible refine Below.drew ?_) | (with_reducible refine below_drewN ?_ _) | (with_reducible refine Below.setCell ?_ ?_ _) | (with_reducible refine Below.alloc ?_ ?_ _) | (refine Below.trans ?_ (Below.mono (by with_reducible assumption) ?_)) | omega | (exact Below.size (by with_reducible assumption)) | (simp; done) | (simp; omega)))⟩
end Go.Proofs.Ytphcpphmoeiioaa
