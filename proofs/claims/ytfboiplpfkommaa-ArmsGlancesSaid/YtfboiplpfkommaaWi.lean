/- Walks: the nearest setting, of the program and of the reference. -/
import Derived.Test.YtfboiplpfkommaaWh
namespace Go.Proofs.Ytfboiplpfkommaa
open Go.RowKit

set_option maxRecDepth 100000 in
set_option maxHeartbeats 4000000 in
theorem nearest65 (a b c d lo hi p q : Int) (w : World) (ha : 1 ≤ a ∧ a ≤ 100) (hb : 1 ≤ b ∧ b ≤ 100) (hc : 1 ≤ c ∧ c ≤ 100) (hd : 1 ≤ d ∧ d ≤ 100) (hl : 1 ≤ lo) (hlh : lo ≤ hi) (hh : hi ≤ 10000) (hp : -1000000 ≤ p ∧ p ≤ 1000000) (hq : 1 ≤ q ∧ q ≤ 10000000000) :
    Calls Try.prog 65 #[.agg #[.int .i64 a, .int .i64 b, .int .i64 c, .int .i64 d, .int .i64 lo, .int .i64 hi, .int .i64 p, .int .i64 q]] w fun e w' => e = .returned (.int .i64 (setV a b c d lo hi p q)) ∧ Below w.heap.size w w' := by
  go_enter Try.func65, Try.ntmps65
  go_wp2
  have o0 : Own (w.alloc (.cells #[.int .i64 a, .int .i64 b, .int .i64 c, .int .i64 d, .int .i64 lo, .int .i64 hi, .int .i64 p, .int .i64 q] 87)) w.heap.size [.int .i64 a, .int .i64 b, .int .i64 c, .int .i64 d, .int .i64 lo, .int .i64 hi, .int .i64 p, .int .i64 q] := Own.new' _ _ rfl rfl
  have oB : Below w.heap.size w (w.alloc (.cells #[.int .i64 a, .int .i64 b, .int .i64 c, .int .i64 d, .int .i64 lo, .int .i64 hi, .int .i64 p, .int .i64 q] 87)) := by (repeat' (first | (with_reducible exact Below.refl _ _) | (with_reducible assumption) | (with_reducible refine Below.drew ?_) | (with_reducible refine below_drewN ?_ _) | (with_reducible refine Below.setCell ?_ ?_ _) | (with_reducible refine Below.alloc ?_ ?_ _) | (refine Below.trans ?_ (Below.mono (by with_reducible assumption) ?_)) | omega | (exact Below.size (by with_reducible assumption)) | (simp; done) | (simp; omega)))
  go_loopw [3, 4] (fun best s wr => ∃ k : Nat, lo + k ≤ hi + 1 ∧ s = .int .i64 (lo + k) ∧ best = .int .i64 (nearS (offV a b c d p q) lo k) ∧ Own wr w.heap.size [.int .i64 a, .int .i64 b, .int .i64 c, .int .i64 d, .int .i64 lo, .int .i64 hi, .int .i64 p, .int .i64 q] ∧ Below w.heap.size w wr) (fun _ s _ => (hi + 1 - intOf s).toNat)
  case atStart => exact ⟨0, by omega, by simp, rfl, o0, oB⟩
  case round =>
    clear o0 oB
    obtain ⟨k, hk, rfl, rfl, t0, hbw⟩ := hrel
    have hin := nearS_in (offV a b c d p q) lo hi k hlh hk
    have hx0 := Aft.cell t0
    obtain ⟨l0, c0, f0⟩ := t0
    by_cases hlt : lo + (k : Int) ≤ hi
    · by_cases hcmp : offV a b c d p q (lo + k) < offV a b c d p q (nearS (offV a b c d p q) lo k)
      · have hst := Lib.hid (nearS_t hcmp)
        go_wp2
        refine wp_region_aft (by kernel_rfl) (by kernel_rfl) ?_; (repeat (go_big_quiet_step ((go_at_call 69; exact aft_of (off69 a b c d lo hi p q _ _ ha hb hc hd (by omega) hp hq))))); refine wpQuiet_nil ?_; rintro w1 ⟨⟨_, hb1⟩, rfl⟩
        go_wp2
        go_roundw
        case rel => exact ⟨k + 1, by omega, by go_num, by rw [hst.out], (Own.mk l0 c0 f0).below hb1 l0, by (repeat' (first | (with_reducible exact Below.refl _ _) | (with_reducible assumption) | (with_reducible refine Below.drew ?_) | (with_reducible refine below_drewN ?_ _) | (with_reducible refine Below.setCell ?_ ?_ _) | (with_reducible refine Below.alloc ?_ ?_ _) | (refine Below.trans ?_ (Below.mono (by with_reducible assumption) ?_)) | omega | (exact Below.size (by with_reducible assumption)) | (simp; done) | (simp; omega)))⟩
        case measure => simp only [intOf]; omega
      · have hst := Lib.hid (nearS_f hcmp)
        go_wp2
        refine wp_region_aft (by kernel_rfl) (by kernel_rfl) ?_; (repeat (go_big_quiet_step ((go_at_call 69; exact aft_of (off69 a b c d lo hi p q _ _ ha hb hc hd (by omega) hp hq))))); refine wpQuiet_nil ?_; rintro w1 ⟨⟨_, hb1⟩, rfl⟩
        go_wp2
        go_roundw
        case rel => exact ⟨k + 1, by omega, by go_num, by rw [hst.out], (Own.mk l0 c0 f0).below hb1 l0, by (repeat' (first | (with_reducible exact Below.refl _ _) | (with_reducible assumption) | (with_reducible refine Below.drew ?_) | (with_reducible refine below_drewN ?_ _) | (with_reducible refine Below.setCell ?_ ?_ _) | (with_reducible refine Below.alloc ?_ ?_ _) | (refine Below.trans ?_ (Below.mono (by with_reducible assumption) ?_)) | omega | (exact Below.size (by with_reducible assumption)) | (simp; done) | (simp; omega)))⟩
        case measure => simp only [intOf]; omega
    · have hkm : k = (hi - lo + 1).toNat := by omega
      have hfin : Hid (setV a b c d lo hi p q = nearS (offV a b c d p q) lo k) := by rw [hkm]; rfl
      clear hkm
      go_wp2
      go_ret
      exact ⟨by rw [hfin.out]; rfl, hbw⟩

set_option maxHeartbeats 1000000 in
theorem valueOf66 (a b c d lo hi s : Int) (w : World) (ha : 1 ≤ a ∧ a ≤ 100) (hb : 1 ≤ b ∧ b ≤ 100) (hc : 1 ≤ c ∧ c ≤ 100) (hd : 1 ≤ d ∧ d ≤ 100) (hs : 1 ≤ s ∧ s ≤ 10000) :
    Calls Try.prog 66 #[.agg #[.int .i64 a, .int .i64 b, .int .i64 c, .int .i64 d, .int .i64 lo, .int .i64 hi], .int .i64 s] w fun e w' => e = .returned (.agg #[.int .i64 (s * a * c), .int .i64 (b * d)]) ∧ Below w.heap.size w w' := by
  obtain ⟨⟨g1, g2⟩, ⟨g3, g4⟩, ⟨g5, g6⟩⟩ := arm_mul ha hb hc hd hs
  go_enter Try.func66, Try.ntmps66
  go_wp2
  refine bodyPost_ret (v := .agg #[.int .i64 (s * a * c), .int .i64 (b * d)]) (by simp [results, Try.results66, go_sem, *]) rfl ⟨rfl, ?_⟩
  (repeat' (first | (with_reducible exact Below.refl _ _) | (with_reducible assumption) | (with_reducible refine Below.drew ?_) | (with_reducible refine below_drewN ?_ _) | (with_reducible refine Below.setCell ?_ ?_ _) | (with_reducible refine Below.alloc ?_ ?_ _) | (refine Below.trans ?_ (Below.mono (by with_reducible assumption) ?_)) | omega | (exact Below.size (by with_reducible assumption)) | (simp; done) | (simp; omega)))

/-- A greater arm's products with a scale. -/
theorem arm_off2 {a b c d s p q sc : Int} (ha : 1 ≤ a ∧ a ≤ 100) (hb : 1 ≤ b ∧ b ≤ 100) (hc : 1 ≤ c ∧ c ≤ 100) (hd : 1 ≤ d ∧ d ≤ 100) (hs : 1 ≤ s ∧ s ≤ 10000) (hp : -1000000 ≤ p ∧ p ≤ 1000000) (hq : 1 ≤ q ∧ q ≤ 1000000) (hsc : 1 ≤ sc ∧ sc ≤ 100) :
    (0 ≤ s * a * c * q ∧ s * a * c * q ≤ 1000000000000000000) ∧ (0 ≤ s * a * c * q * sc ∧ s * a * c * q * sc ≤ 1000000000000000000) ∧ (0 ≤ s * a * c * q * sc * sc ∧ s * a * c * q * sc * sc ≤ 1000000000000000000) ∧ (-10000000000 ≤ p * (b * d) ∧ p * (b * d) ≤ 10000000000) ∧ (1 ≤ q * (sc * sc) ∧ q * (sc * sc) ≤ 10000000000) := by
  have e0 := arm_off ha hb hc hd hs hp (show 1 ≤ q ∧ q ≤ 10000000000 by omega)
  obtain ⟨_, h2, h3⟩ := arm_mul ha hb hc hd hs
  have e1 := @mul_bd (s * a * c) q 100000000 1000000 (by omega) (by omega) (by omega) (by omega) (by omega) (by omega)
  have e2 := @mul_bd (s * a * c * q) sc 100000000000000 100 (by omega) (by omega) (by omega) (by omega) (by omega) (by omega)
  have e3 := @mul_bd (s * a * c * q * sc) sc 10000000000000000 100 (by omega) (by omega) (by omega) (by omega) (by omega) (by omega)
  have p2 := Int.mul_nonneg e0.1.1 (show 0 ≤ sc by omega)
  have p3 := Int.mul_nonneg p2 (show 0 ≤ sc by omega)
  have e4 := @mul_bd sc sc 100 100 (by omega) (by omega) (by omega) (by omega) (by omega) (by omega)
  have p4 := Int.mul_pos (show 0 < sc by omega) (show 0 < sc by omega)
  have e5 := @mul_bd q (sc * sc) 1000000 10000 (by omega) (by omega) (by omega) (by omega) (by omega) (by omega)
  have p5 := Int.mul_pos (show 0 < q by omega) p4
  omega

set_option maxHeartbeats 1000000 in
theorem farFrom29 (a b c d lo hi s sc p q : Int) (w : World) (ha : 1 ≤ a ∧ a ≤ 100) (hb : 1 ≤ b ∧ b ≤ 100) (hc : 1 ≤ c ∧ c ≤ 100) (hd : 1 ≤ d ∧ d ≤ 100) (hs : 1 ≤ s ∧ s ≤ 10000) (hp : -1000000 ≤ p ∧ p ≤ 1000000) (hq : 1 ≤ q ∧ q ≤ 1000000) (hsc : 1 ≤ sc ∧ sc ≤ 100) :
    Calls Try.prog 29 #[.agg #[.int .i64 a, .int .i64 b, .int .i64 c, .int .i64 d, .int .i64 lo, .int .i64 hi], .int .i64 s, .int .i64 sc, .agg #[.int .i64 p, .int .i64 q]] w fun e w' => e = .returned (.int .i64 (offV a b c d p (q * (sc * sc)) s)) ∧ Below w.heap.size w w' := by
  obtain ⟨⟨g1, g2⟩, ⟨g3, g4⟩, ⟨g5, g6⟩, ⟨g7, g8⟩, _⟩ := arm_off2 ha hb hc hd hs hp hq hsc
  go_enter Try.func29, Try.ntmps29
  go_wp2_with fail
  refine (valueOf66 _ _ _ _ _ _ _ _ ha hb hc hd hs).mono ?_
  rintro e w1 ⟨rfl, hb1⟩
  (have hz1 := hb1.size; (try simp at hz1); have hc1_0 := fun o => (bcell hb1).1 (w.heap.size) o (by first | omega | (simp; done) | (simp; omega)); have hf1_0 := fun o => (bcell hb1).2 (w.heap.size) o (by first | omega | (simp; done) | (simp; omega)); have : w.heap.size < w1.heap.size := (by first | omega | (simp; done) | (simp; omega)); have : w.heap.size < w1.heap.size + 1 := (by first | omega | (simp; done) | (simp; omega)); have : w.heap.size < w1.heap.size + 2 := (by first | omega | (simp; done) | (simp; omega)); have : w.heap.size < w1.heap.size + 3 := (by first | omega | (simp; done) | (simp; omega)); have hc1_1 := fun o => (bcell hb1).1 (w.heap.size + 1) o (by first | omega | (simp; done) | (simp; omega)); have hf1_1 := fun o => (bcell hb1).2 (w.heap.size + 1) o (by first | omega | (simp; done) | (simp; omega)); have : w.heap.size + 1 < w1.heap.size := (by first | omega | (simp; done) | (simp; omega)); have : w.heap.size + 1 < w1.heap.size + 1 := (by first | omega | (simp; done) | (simp; omega)); have : w.heap.size + 1 < w1.heap.size + 2 := (by first | omega | (simp; done) | (simp; omega)); have : w.heap.size + 1 < w1.heap.size + 3 := (by first | omega | (simp; done) | (simp; omega)))
  go_wp2_with (first | (go_at_call 58; refine (size58 _ _ (by omega) (by omega)).mono ?_; rintro e w1 ⟨rfl, rfl⟩))
  go_ret
  exact ⟨ret_int (offV_eq a b c d p q s sc), by (repeat' (first | (with_reducible exact Below.refl _ _) | (with_reducible assumption) | (with_reducible refine Below.drew ?_) | (with_reducible refine below_drewN ?_ _) | (with_reducible refine Below.setCell ?_ ?_ _) | (with_reducible refine Below.alloc ?_ ?_ _) | (refine Below.trans ?_ (Below.mono (by with_reducible assumption) ?_)) | omega | (exact Below.size (by with_reducible assumption)) | (simp; done) | (simp; omega)))⟩

set_option maxRecDepth 100000 in
set_option maxHeartbeats 4000000 in
theorem set76 (a b c d lo hi sc p q : Int) (w : World) (ha : 1 ≤ a ∧ a ≤ 100) (hb : 1 ≤ b ∧ b ≤ 100) (hc : 1 ≤ c ∧ c ≤ 100) (hd : 1 ≤ d ∧ d ≤ 100) (hl : 1 ≤ lo) (hlh : lo ≤ hi) (hh : hi ≤ 10000) (hp : -1000000 ≤ p ∧ p ≤ 1000000) (hq : 1 ≤ q ∧ q ≤ 1000000) (hsc : 1 ≤ sc ∧ sc ≤ 100) :
    Calls Try.prog 76 #[.agg #[.int .i64 a, .int .i64 b, .int .i64 c, .int .i64 d, .int .i64 lo, .int .i64 hi], .int .i64 sc, .agg #[.int .i64 p, .int .i64 q]] w fun e w' => e = .returned (.int .i64 (setV a b c d lo hi p (q * (sc * sc)))) ∧ Below w.heap.size w w' := by
  go_enter Try.func76, Try.ntmps76
  go_wp2
  have o0 : Own ((w.alloc (.cells #[.int .i64 a, .int .i64 b, .int .i64 c, .int .i64 d, .int .i64 lo, .int .i64 hi] 41)).alloc (.cells #[.int .i64 p, .int .i64 q] 23)) w.heap.size [.int .i64 a, .int .i64 b, .int .i64 c, .int .i64 d, .int .i64 lo, .int .i64 hi] := (Own.new' _ _ rfl rfl).alloc _
  have o1 : Own ((w.alloc (.cells #[.int .i64 a, .int .i64 b, .int .i64 c, .int .i64 d, .int .i64 lo, .int .i64 hi] 41)).alloc (.cells #[.int .i64 p, .int .i64 q] 23)) (w.heap.size + 1) [.int .i64 p, .int .i64 q] := Own.new' _ _ (by simp) rfl
  have oB : Below w.heap.size w ((w.alloc (.cells #[.int .i64 a, .int .i64 b, .int .i64 c, .int .i64 d, .int .i64 lo, .int .i64 hi] 41)).alloc (.cells #[.int .i64 p, .int .i64 q] 23)) := by (repeat' (first | (with_reducible exact Below.refl _ _) | (with_reducible assumption) | (with_reducible refine Below.drew ?_) | (with_reducible refine below_drewN ?_ _) | (with_reducible refine Below.setCell ?_ ?_ _) | (with_reducible refine Below.alloc ?_ ?_ _) | (refine Below.trans ?_ (Below.mono (by with_reducible assumption) ?_)) | omega | (exact Below.size (by with_reducible assumption)) | (simp; done) | (simp; omega)))
  go_loopw [7, 8] (fun best s wr => ∃ k : Nat, lo + k ≤ hi + 1 ∧ s = .int .i64 (lo + k) ∧ best = .int .i64 (nearS (offV a b c d p (q * (sc * sc))) lo k) ∧ Own wr w.heap.size [.int .i64 a, .int .i64 b, .int .i64 c, .int .i64 d, .int .i64 lo, .int .i64 hi] ∧ Own wr (w.heap.size + 1) [.int .i64 p, .int .i64 q] ∧ Below w.heap.size w wr) (fun _ s _ => (hi + 1 - intOf s).toNat)
  case atStart => exact ⟨0, by omega, by simp, rfl, o0, o1, oB⟩
  case round =>
    clear o0 o1 oB
    obtain ⟨k, hk, rfl, rfl, t0, t1, hbw⟩ := hrel
    have hin := nearS_in (offV a b c d p (q * (sc * sc))) lo hi k hlh hk
    have hx0 := Aft.cell t0
    have hx1 := Aft.cell t1
    obtain ⟨l0, c0, f0⟩ := t0
    obtain ⟨l1, c1, f1⟩ := t1
    by_cases hlt : lo + (k : Int) ≤ hi
    · by_cases hcmp : offV a b c d p (q * (sc * sc)) (lo + k) < offV a b c d p (q * (sc * sc)) (nearS (offV a b c d p (q * (sc * sc))) lo k)
      · have hst := Lib.hid (nearS_t hcmp)
        go_wp2
        refine wp_region_aft (by kernel_rfl) (by kernel_rfl) ?_; (repeat (go_big_quiet_step ((go_at_call 29; exact aft_of (farFrom29 a b c d lo hi _ sc p q _ ha hb hc hd (by omega) hp hq hsc))))); refine wpQuiet_nil ?_; rintro w1 ⟨⟨_, hb1⟩, rfl⟩
        go_wp2
        go_roundw
        case rel => exact ⟨k + 1, by omega, by go_num, by rw [hst.out], (Own.mk l0 c0 f0).below hb1 l0, (Own.mk l1 c1 f1).below hb1 l1, by (repeat' (first | (with_reducible exact Below.refl _ _) | (with_reducible assumption) | (with_reducible refine Below.drew ?_) | (with_reducible refine below_drewN ?_ _) | (with_reducible refine Below.setCell ?_ ?_ _) | (with_reducible refine Below.alloc ?_ ?_ _) | (refine Below.trans ?_ (Below.mono (by with_reducible assumption) ?_)) | omega | (exact Below.size (by with_reducible assumption)) | (simp; done) | (simp; omega)))⟩
        case measure => simp only [intOf]; omega
      · have hst := Lib.hid (nearS_f hcmp)
        go_wp2
        refine wp_region_aft (by kernel_rfl) (by kernel_rfl) ?_; (repeat (go_big_quiet_step ((go_at_call 29; exact aft_of (farFrom29 a b c d lo hi _ sc p q _ ha hb hc hd (by omega) hp hq hsc))))); refine wpQuiet_nil ?_; rintro w1 ⟨⟨_, hb1⟩, rfl⟩
        go_wp2
        go_roundw
        case rel => exact ⟨k + 1, by omega, by go_num, by rw [hst.out], (Own.mk l0 c0 f0).below hb1 l0, (Own.mk l1 c1 f1).below hb1 l1, by (repeat' (first | (with_reducible exact Below.refl _ _) | (with_reducible assumption) | (with_reducible refine Below.drew ?_) | (with_reducible refine below_drewN ?_ _) | (with_reducible refine Below.setCell ?_ ?_ _) | (with_reducible refine Below.alloc ?_ ?_ _) | (refine Below.trans ?_ (Below.mono (by with_reducible assumption) ?_)) | omega | (exact Below.size (by with_reducible assumption)) | (simp; done) | (simp; omega)))⟩
        case measure => simp only [intOf]; omega
    · have hkm : k = (hi - lo + 1).toNat := by omega
      have hfin : Hid (setV a b c d lo hi p (q * (sc * sc)) = nearS (offV a b c d p (q * (sc * sc))) lo k) := by rw [hkm]; rfl
      clear hkm
      go_wp2
      go_ret
      exact ⟨by rw [hfin.out]; rfl, hbw⟩

end Go.Proofs.Ytfboiplpfkommaa
