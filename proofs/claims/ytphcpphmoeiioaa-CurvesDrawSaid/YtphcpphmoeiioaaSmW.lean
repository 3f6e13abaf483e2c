/- Walks: same. -/
import Derived.Test.YtphcpphmoeiioaaSpW
namespace Go.Proofs.Ytphcpphmoeiioaa
open Go.RowKit Go.Maps

theorem far_n {L sl rl rh wg : Int} {ks : List Kn} (h : farB L sl rl rh wg ks = false) : ks.length ≤ 40 := by
  unfold farB at h
  simp only [Bool.or_eq_false_iff, decide_eq_false_iff_not] at h
  omega
set_option maxRecDepth 100000 in
set_option maxHeartbeats 8000000 in
theorem same17 (L sl rl rh wg : Int) (A : Option Addr) (n cap : Nat) (ks : List Kn) (L' sl' rl' rh' wg' : Int) (A' : Option Addr) (cap' : Nat) (w : World) (hA : Rd 3 w A (ks.map krow)) (hA' : Rd 3 w A' (ks.map krow)) (hn : Hid (n = ks.length)) (hlen : n ≤ 9223372036854775807) :
    Calls Try.prog 17 #[.agg #[.int .i64 L, .int .i64 sl, .int .i64 rl, .int .i64 rh, .slice A n cap, .int .i64 wg], .agg #[.int .i64 L', .int .i64 sl', .int .i64 rl', .int .i64 rh', .slice A' n cap', .int .i64 wg']] w fun e w' => e = .returned (.bool true) ∧ Below w.heap.size w w' := by
  have HA := Lib.hid hA
  have HA' := Lib.hid hA'
  clear hA hA'
  go_enter Try.func17, Try.ntmps17
  go_wp2
  go_loopg [5] n (fun K z wr => ∃ k : Nat, K + k = n ∧ z = .int .i64 k ∧ Hid (Own wr w.heap.size [.int .i64 L, .int .i64 sl, .int .i64 rl, .int .i64 rh, .slice A n cap, .int .i64 wg]) ∧ Hid (Own wr (w.heap.size + 1) [.int .i64 L', .int .i64 sl', .int .i64 rl', .int .i64 rh', .slice A' n cap', .int .i64 wg']) ∧ Hid (Below w.heap.size w wr))
  case atStart => exact ⟨0, rfl, rfl, Lib.hid ((Own.new' _ _ rfl rfl).alloc _), Lib.hid (Own.new' _ _ (by simp) rfl), Lib.hid (by (repeat' (first | (with_reducible exact Below.refl _ _) | (with_reducible assumption) | (with_reducible refine Below.drew ?_) | (with_reducible refine below_drewN ?_ _) | (with_reducible refine Below.setCell ?_ ?_ _) | (with_reducible refine Below.alloc ?_ ?_ _) | (refine Below.trans ?_ (Below.mono (by with_reducible assumption) ?_)) | omega | (exact Below.size (by with_reducible assumption)) | (simp; done) | (simp; omega))))⟩
  case round =>
    obtain ⟨k, hK, rfl, h0, h1, hbw⟩ := hrel
    obtain ⟨l0, k0, f0⟩ := h0.out
    obtain ⟨l1, k1, f1⟩ := h1.out
    have hsz := hbw.out.size
    by_cases hlt : k < n
    · obtain ⟨q, hq⟩ : ∃ q, Hid (ks[k]? = some q) := ⟨ks[k]'(by have := hn.out; omega), by simp [Hid]⟩
      obtain ⟨b, off, hAe, hb, c0, c1, c2⟩ := rd_kn (HA.out.below hbw.out (Nat.le_refl _)) hq.out
      obtain ⟨b', off', hAe', hb', d0, d1, d2⟩ := rd_kn (HA'.out.below hbw.out (Nat.le_refl _)) hq.out
      have hAE := Lib.hid hAe
      have hAA := hAE.out
      subst hAA
      have hAE' := Lib.hid hAe'
      have hAA' := hAE'.out
      subst hAA'
      have hx0 := Aft.cell (W := wr) h0.out
      have hx1 := Aft.cell (W := wr) h1.out
      have hy0 := fun x : Aft wr => (Aft.old x hb _).trans c0
      have hy1 := fun x : Aft wr => (Aft.old x hb _).trans c1
      have hy2 := fun x : Aft wr => (Aft.old x hb _).trans c2
      have hz0 := fun x : Aft wr => (Aft.old x hb' _).trans d0
      have hz1 := fun x : Aft wr => (Aft.old x hb' _).trans d1
      have hz2 := fun x : Aft wr => (Aft.old x hb' _).trans d2
      have y0 : (k : Int) < (n : Int) := by omega
      clear hAe hAe' hAE hAE' c0 c1 c2 d0 d1 d2
      go_wp2
      refine wp_region_aft (by kernel_rfl) (by kernel_rfl) ?_; (repeat (go_big_quiet_step (fail))); refine wpQuiet_nil ?_; rintro w6 ⟨⟨_, hb6⟩, rfl⟩
      have hB6 := Lib.hid (hbw.out.trans (hb6.mono hsz))
      have r0 := Lib.hid (h0.out.below hb6 l0)
      have r1 := Lib.hid (h1.out.below hb6 l1)
      clear hx0 hx1 hy0 hy1 hy2 hz0 hz1 hz2 hb6 l0 k0 f0 l1 k1 f1
      go_wp2
      go_roundg (n - (k + 1))
      case measure => omega
      case rel => exact ⟨k + 1, by omega, by go_num, r0, r1, hB6⟩
    · obtain rfl : k = n := by omega
      go_wp2
      go_ret
      exact ⟨rfl, hbw.out⟩
end Go.Proofs.Ytphcpphmoeiioaa
