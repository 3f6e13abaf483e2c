/- Walk: the theorem of the setting, a greater second wish. -/
import Derived.Test.YtfboiplpfkommaaWs
import Derived.Test.YtfboiplpfkommaaWk
import Derived.Test.YtfboiplpfkommaaSetQ
namespace Go.Proofs.Ytfboiplpfkommaa
open Go.RowKit

set_option maxRecDepth 100000 in
set_option maxHeartbeats 16000000 in
theorem near7_00 (a b c d lo hi p q u v s : Int) (w : World) (HF : Hid ((armB a b c d lo hi && decide (400 < hi - lo)) = false)) (HA : Hid (armB a b c d lo hi = true)) (HR : Hid (ratB p q = true)) (HQ : Hid (ratB u v = true)) (h1 : 0 < p) (h2 : 0 < u) (h3 : lo ≤ s) (h4 : s ≤ hi) (ha : 1 ≤ a ∧ a ≤ 100) (hb : 1 ≤ b ∧ b ≤ 100) (hc : 1 ≤ c ∧ c ≤ 100) (hd : 1 ≤ d ∧ d ≤ 100) (hlo : 1 ≤ lo) (hhi : hi ≤ 10000) (hp : p ≤ 1000000) (hq : 1 ≤ q ∧ q ≤ 1000000) (n m f g rn rd re sn sd se : Int) (H : S7 a b c d lo hi p q u v s n m f g rn rd re sn sd se) (hbd : (-1000000000000 ≤ p * v ∧ p * v ≤ 1000000000000) ∧ (-1000000000000 ≤ u * q ∧ u * q ≤ 1000000000000)) (hx : p * v < u * q) (he : f < g) :
    Calls Try.prog 7 #[.agg #[.int .i64 a, .int .i64 b, .int .i64 c, .int .i64 d, .int .i64 lo, .int .i64 hi], .agg #[.int .i64 p, .int .i64 q, .int .i64 u, .int .i64 v], .int .i64 s] w fun e w' => e = .returned (.bool true) ∧ Below w.heap.size w w' := by
  obtain ⟨⟨_, _⟩, ⟨_, _⟩⟩ := hbd
  have n1 := H.n1
  have n2 := H.n2
  have m1 := H.m1
  have m2 := H.m2
  have fg := H.fg
  have fe := H.eq
  have nm := H.le (by omega)
  try clear fe
  go_enter Try.func7, Try.ntmps7
  go_wp2_with fail
  refine (far24 _ _ _ _ _ _ _).mono ?_
  rw [HF.out]
  rintro e w1 ⟨rfl, hb1⟩
  (have hz1 := hb1.size; (try simp at hz1); have hc1_0 := fun o => (bcell hb1).1 (w.heap.size) o (by first | omega | (simp; done) | (simp; omega)); have hf1_0 := fun o => (bcell hb1).2 (w.heap.size) o (by first | omega | (simp; done) | (simp; omega)); have : w.heap.size < w1.heap.size := (by first | omega | (simp; done) | (simp; omega)); have : w.heap.size < w1.heap.size + 1 := (by first | omega | (simp; done) | (simp; omega)); have : w.heap.size < w1.heap.size + 2 := (by first | omega | (simp; done) | (simp; omega)); have : w.heap.size < w1.heap.size + 3 := (by first | omega | (simp; done) | (simp; omega)); have hc1_1 := fun o => (bcell hb1).1 (w.heap.size + 1) o (by first | omega | (simp; done) | (simp; omega)); have hf1_1 := fun o => (bcell hb1).2 (w.heap.size + 1) o (by first | omega | (simp; done) | (simp; omega)); have : w.heap.size + 1 < w1.heap.size := (by first | omega | (simp; done) | (simp; omega)); have : w.heap.size + 1 < w1.heap.size + 1 := (by first | omega | (simp; done) | (simp; omega)); have : w.heap.size + 1 < w1.heap.size + 2 := (by first | omega | (simp; done) | (simp; omega)); have : w.heap.size + 1 < w1.heap.size + 3 := (by first | omega | (simp; done) | (simp; omega)))
  go_wp2_with fail
  refine (isArm25 _ _ _ _ _ _ _).mono ?_
  rw [HA.out]
  rintro e w2 ⟨rfl, hb2⟩
  (have hz2 := hb2.size; (try simp at hz2); have hc2_0 := fun o => (bcell hb2).1 (w.heap.size) o (by first | omega | (simp; done) | (simp; omega)); have hf2_0 := fun o => (bcell hb2).2 (w.heap.size) o (by first | omega | (simp; done) | (simp; omega)); have : w.heap.size < w2.heap.size := (by first | omega | (simp; done) | (simp; omega)); have : w.heap.size < w2.heap.size + 1 := (by first | omega | (simp; done) | (simp; omega)); have : w.heap.size < w2.heap.size + 2 := (by first | omega | (simp; done) | (simp; omega)); have : w.heap.size < w2.heap.size + 3 := (by first | omega | (simp; done) | (simp; omega)); have hc2_1 := fun o => (bcell hb2).1 (w.heap.size + 1) o (by first | omega | (simp; done) | (simp; omega)); have hf2_1 := fun o => (bcell hb2).2 (w.heap.size + 1) o (by first | omega | (simp; done) | (simp; omega)); have : w.heap.size + 1 < w2.heap.size := (by first | omega | (simp; done) | (simp; omega)); have : w.heap.size + 1 < w2.heap.size + 1 := (by first | omega | (simp; done) | (simp; omega)); have : w.heap.size + 1 < w2.heap.size + 2 := (by first | omega | (simp; done) | (simp; omega)); have : w.heap.size + 1 < w2.heap.size + 3 := (by first | omega | (simp; done) | (simp; omega)))
  go_wp2_with fail
  refine (isRatio16 _ _ _).mono ?_
  rw [HR.out]
  rintro e w3 ⟨rfl, hb3⟩
  (have hz3 := hb3.size; (try simp at hz3); have hc3_0 := fun o => (bcell hb3).1 (w.heap.size) o (by first | omega | (simp; done) | (simp; omega)); have hf3_0 := fun o => (bcell hb3).2 (w.heap.size) o (by first | omega | (simp; done) | (simp; omega)); have : w.heap.size < w3.heap.size := (by first | omega | (simp; done) | (simp; omega)); have : w.heap.size < w3.heap.size + 1 := (by first | omega | (simp; done) | (simp; omega)); have : w.heap.size < w3.heap.size + 2 := (by first | omega | (simp; done) | (simp; omega)); have : w.heap.size < w3.heap.size + 3 := (by first | omega | (simp; done) | (simp; omega)); have hc3_1 := fun o => (bcell hb3).1 (w.heap.size + 1) o (by first | omega | (simp; done) | (simp; omega)); have hf3_1 := fun o => (bcell hb3).2 (w.heap.size + 1) o (by first | omega | (simp; done) | (simp; omega)); have : w.heap.size + 1 < w3.heap.size := (by first | omega | (simp; done) | (simp; omega)); have : w.heap.size + 1 < w3.heap.size + 1 := (by first | omega | (simp; done) | (simp; omega)); have : w.heap.size + 1 < w3.heap.size + 2 := (by first | omega | (simp; done) | (simp; omega)); have : w.heap.size + 1 < w3.heap.size + 3 := (by first | omega | (simp; done) | (simp; omega)))
  go_wp2_with fail
  refine (isRatio16 _ _ _).mono ?_
  rw [HQ.out]
  rintro e w4 ⟨rfl, hb4⟩
  (have hz4 := hb4.size; (try simp at hz4); have hc4_0 := fun o => (bcell hb4).1 (w.heap.size) o (by first | omega | (simp; done) | (simp; omega)); have hf4_0 := fun o => (bcell hb4).2 (w.heap.size) o (by first | omega | (simp; done) | (simp; omega)); have : w.heap.size < w4.heap.size := (by first | omega | (simp; done) | (simp; omega)); have : w.heap.size < w4.heap.size + 1 := (by first | omega | (simp; done) | (simp; omega)); have : w.heap.size < w4.heap.size + 2 := (by first | omega | (simp; done) | (simp; omega)); have : w.heap.size < w4.heap.size + 3 := (by first | omega | (simp; done) | (simp; omega)); have hc4_1 := fun o => (bcell hb4).1 (w.heap.size + 1) o (by first | omega | (simp; done) | (simp; omega)); have hf4_1 := fun o => (bcell hb4).2 (w.heap.size + 1) o (by first | omega | (simp; done) | (simp; omega)); have : w.heap.size + 1 < w4.heap.size := (by first | omega | (simp; done) | (simp; omega)); have : w.heap.size + 1 < w4.heap.size + 1 := (by first | omega | (simp; done) | (simp; omega)); have : w.heap.size + 1 < w4.heap.size + 2 := (by first | omega | (simp; done) | (simp; omega)); have : w.heap.size + 1 < w4.heap.size + 3 := (by first | omega | (simp; done) | (simp; omega)))
  go_wp2_with fail
  refine (set27 _ _ _ _ _ _ _ _ _).mono ?_
  rw [H.hn.out]
  rintro e w5 ⟨rfl, hb5⟩
  (have hz5 := hb5.size; (try simp at hz5); have hc5_0 := fun o => (bcell hb5).1 (w.heap.size) o (by first | omega | (simp; done) | (simp; omega)); have hf5_0 := fun o => (bcell hb5).2 (w.heap.size) o (by first | omega | (simp; done) | (simp; omega)); have : w.heap.size < w5.heap.size := (by first | omega | (simp; done) | (simp; omega)); have : w.heap.size < w5.heap.size + 1 := (by first | omega | (simp; done) | (simp; omega)); have : w.heap.size < w5.heap.size + 2 := (by first | omega | (simp; done) | (simp; omega)); have : w.heap.size < w5.heap.size + 3 := (by first | omega | (simp; done) | (simp; omega)); have hc5_1 := fun o => (bcell hb5).1 (w.heap.size + 1) o (by first | omega | (simp; done) | (simp; omega)); have hf5_1 := fun o => (bcell hb5).2 (w.heap.size + 1) o (by first | omega | (simp; done) | (simp; omega)); have : w.heap.size + 1 < w5.heap.size := (by first | omega | (simp; done) | (simp; omega)); have : w.heap.size + 1 < w5.heap.size + 1 := (by first | omega | (simp; done) | (simp; omega)); have : w.heap.size + 1 < w5.heap.size + 2 := (by first | omega | (simp; done) | (simp; omega)); have : w.heap.size + 1 < w5.heap.size + 3 := (by first | omega | (simp; done) | (simp; omega)))
  go_wp2_with fail
  refine (set27 _ _ _ _ _ _ _ _ _).mono ?_
  rw [H.hm.out]
  rintro e w6 ⟨rfl, hb6⟩
  (have hz6 := hb6.size; (try simp at hz6); have hc6_0 := fun o => (bcell hb6).1 (w.heap.size) o (by first | omega | (simp; done) | (simp; omega)); have hf6_0 := fun o => (bcell hb6).2 (w.heap.size) o (by first | omega | (simp; done) | (simp; omega)); have : w.heap.size < w6.heap.size := (by first | omega | (simp; done) | (simp; omega)); have : w.heap.size < w6.heap.size + 1 := (by first | omega | (simp; done) | (simp; omega)); have : w.heap.size < w6.heap.size + 2 := (by first | omega | (simp; done) | (simp; omega)); have : w.heap.size < w6.heap.size + 3 := (by first | omega | (simp; done) | (simp; omega)); have hc6_1 := fun o => (bcell hb6).1 (w.heap.size + 1) o (by first | omega | (simp; done) | (simp; omega)); have hf6_1 := fun o => (bcell hb6).2 (w.heap.size + 1) o (by first | omega | (simp; done) | (simp; omega)); have : w.heap.size + 1 < w6.heap.size := (by first | omega | (simp; done) | (simp; omega)); have : w.heap.size + 1 < w6.heap.size + 1 := (by first | omega | (simp; done) | (simp; omega)); have : w.heap.size + 1 < w6.heap.size + 2 := (by first | omega | (simp; done) | (simp; omega)); have : w.heap.size + 1 < w6.heap.size + 3 := (by first | omega | (simp; done) | (simp; omega)))
  have q29 : ∀ t w, t = n → Calls Try.prog 29 #[.agg #[.int .i64 a, .int .i64 b, .int .i64 c, .int .i64 d, .int .i64 lo, .int .i64 hi], .int .i64 t, .int .i64 1, .agg #[.int .i64 p, .int .i64 q]] w fun e w' => e = .returned (.int .i64 f) ∧ Below w.heap.size w w' := fun t w ht => by subst ht; have := farFrom29 a b c d lo hi t 1 p q w ha hb hc hd (by omega) (by omega) hq (by omega); rw [H.hf.out] at this; exact this
  have q29s : ∀ w, Calls Try.prog 29 #[.agg #[.int .i64 a, .int .i64 b, .int .i64 c, .int .i64 d, .int .i64 lo, .int .i64 hi], .int .i64 s, .int .i64 1, .agg #[.int .i64 p, .int .i64 q]] w fun e w' => e = .returned (.int .i64 g) ∧ Below w.heap.size w w' := fun w => by have := farFrom29 a b c d lo hi s 1 p q w ha hb hc hd (by omega) (by omega) hq (by omega); rw [H.hg.out] at this; exact this
  have o0 : Own w6 w.heap.size [.int .i64 a, .int .i64 b, .int .i64 c, .int .i64 d, .int .i64 lo, .int .i64 hi] := by (repeat' (first | (with_reducible assumption) | (with_reducible exact Own.mk (by with_reducible assumption) (by with_reducible assumption) (by with_reducible assumption)) | (with_reducible refine Own.new' _ _ (by first | rfl | (simp; done)) rfl) | (with_reducible refine Own.drew ?_) | (with_reducible refine Own.drewN ?_ _) | (with_reducible refine Own.alloc ?_ _) | (with_reducible refine Own.setOther ?_ ?_ _) | (refine Own.below ?_ (by with_reducible assumption) ?_) | omega | (simp; done) | (simp; omega)))
  have o1 : Own w6 (w.heap.size + 1) [.int .i64 p, .int .i64 q, .int .i64 u, .int .i64 v] := by (repeat' (first | (with_reducible assumption) | (with_reducible exact Own.mk (by with_reducible assumption) (by with_reducible assumption) (by with_reducible assumption)) | (with_reducible refine Own.new' _ _ (by first | rfl | (simp; done)) rfl) | (with_reducible refine Own.drew ?_) | (with_reducible refine Own.drewN ?_ _) | (with_reducible refine Own.alloc ?_ _) | (with_reducible refine Own.setOther ?_ ?_ _) | (refine Own.below ?_ (by with_reducible assumption) ?_) | omega | (simp; done) | (simp; omega)))
  have hx0 := Aft.cell o0
  have hx1 := Aft.cell o1
  go_wp2
  refine wp_region_aft (by kernel_rfl) (by kernel_rfl) ?_; (repeat (go_big_quiet_step ((go_at_call 29; first | exact aft_of (q29 _ _ rfl) | exact aft_of (q29s _))))); refine wpQuiet_nil ?_; rintro w7 ⟨⟨_, hb7⟩, rfl⟩
  have p0 := o0.below hb7 o0.lt
  have p1 := o1.below hb7 o1.lt
  clear hx0 hx1 q29 q29s
  obtain ⟨l0, c0, f0⟩ := p0
  obtain ⟨l1, c1, f1⟩ := p1
  have hbw : Below w.heap.size w w7 := by (repeat' (first | (with_reducible exact Below.refl _ _) | (with_reducible assumption) | (with_reducible refine Below.drew ?_) | (with_reducible refine below_drewN ?_ _) | (with_reducible refine Below.setCell ?_ ?_ _) | (with_reducible refine Below.alloc ?_ ?_ _) | (refine Below.trans ?_ (Below.mono (by with_reducible assumption) ?_)) | omega | (exact Below.size (by with_reducible assumption)) | (simp; done) | (simp; omega)))
  clear o0 o1 hb7
  go_wp2_with fail
  refine (off30 _ _ _ _ _ _ _ _ _ _).mono ?_
  rw [H.hr.out]
  rintro e w8 ⟨rfl, hb8⟩
  (have hz8 := hb8.size; (try simp at hz8); have hc8_0 := fun o => (bcell hb8).1 (w.heap.size) o (by first | omega | (simp; done) | (simp; omega)); have hf8_0 := fun o => (bcell hb8).2 (w.heap.size) o (by first | omega | (simp; done) | (simp; omega)); have : w.heap.size < w8.heap.size := (by first | omega | (simp; done) | (simp; omega)); have : w.heap.size < w8.heap.size + 1 := (by first | omega | (simp; done) | (simp; omega)); have : w.heap.size < w8.heap.size + 2 := (by first | omega | (simp; done) | (simp; omega)); have : w.heap.size < w8.heap.size + 3 := (by first | omega | (simp; done) | (simp; omega)); have hc8_1 := fun o => (bcell hb8).1 (w.heap.size + 1) o (by first | omega | (simp; done) | (simp; omega)); have hf8_1 := fun o => (bcell hb8).2 (w.heap.size + 1) o (by first | omega | (simp; done) | (simp; omega)); have : w.heap.size + 1 < w8.heap.size := (by first | omega | (simp; done) | (simp; omega)); have : w.heap.size + 1 < w8.heap.size + 1 := (by first | omega | (simp; done) | (simp; omega)); have : w.heap.size + 1 < w8.heap.size + 2 := (by first | omega | (simp; done) | (simp; omega)); have : w.heap.size + 1 < w8.heap.size + 3 := (by first | omega | (simp; done) | (simp; omega)))
  go_wp2_with fail
  refine (off30 _ _ _ _ _ _ _ _ _ _).mono ?_
  rw [H.hs.out]
  rintro e w9 ⟨rfl, hb9⟩
  (have hz9 := hb9.size; (try simp at hz9); have hc9_0 := fun o => (bcell hb9).1 (w.heap.size) o (by first | omega | (simp; done) | (simp; omega)); have hf9_0 := fun o => (bcell hb9).2 (w.heap.size) o (by first | omega | (simp; done) | (simp; omega)); have : w.heap.size < w9.heap.size := (by first | omega | (simp; done) | (simp; omega)); have : w.heap.size < w9.heap.size + 1 := (by first | omega | (simp; done) | (simp; omega)); have : w.heap.size < w9.heap.size + 2 := (by first | omega | (simp; done) | (simp; omega)); have : w.heap.size < w9.heap.size + 3 := (by first | omega | (simp; done) | (simp; omega)); have hc9_1 := fun o => (bcell hb9).1 (w.heap.size + 1) o (by first | omega | (simp; done) | (simp; omega)); have hf9_1 := fun o => (bcell hb9).2 (w.heap.size + 1) o (by first | omega | (simp; done) | (simp; omega)); have : w.heap.size + 1 < w9.heap.size := (by first | omega | (simp; done) | (simp; omega)); have : w.heap.size + 1 < w9.heap.size + 1 := (by first | omega | (simp; done) | (simp; omega)); have : w.heap.size + 1 < w9.heap.size + 2 := (by first | omega | (simp; done) | (simp; omega)); have : w.heap.size + 1 < w9.heap.size + 3 := (by first | omega | (simp; done) | (simp; omega)); have hc9_2 := fun o => (bcell hb9).1 (w8.heap.size) o (by first | omega | (simp; done) | (simp; omega)); have hf9_2 := fun o => (bcell hb9).2 (w8.heap.size) o (by first | omega | (simp; done) | (simp; omega)); have : w8.heap.size < w9.heap.size := (by first | omega | (simp; done) | (simp; omega)); have : w8.heap.size < w9.heap.size + 1 := (by first | omega | (simp; done) | (simp; omega)); have : w8.heap.size < w9.heap.size + 2 := (by first | omega | (simp; done) | (simp; omega)); have : w8.heap.size < w9.heap.size + 3 := (by first | omega | (simp; done) | (simp; omega)))
  rcases (show re = 0 ∨ re = 2 from H.r2) with rfl | rfl
  · by_cases hf0 : f = 0
    · obtain rfl : rn = 0 := (H.z rfl).2 hf0
      rcases (show se = 0 ∨ se = 2 from H.s2) with rfl | rfl
      · obtain ⟨x, hc, hx0⟩ := H.c rfl rfl
        go_wp2_with (first | (go_at_call 23; refine (isSum23 _ (by first | exact H.r2 | exact H.s2 | assumption) _).mono ?_; rintro e wq ⟨rfl, rfl⟩))
        refine (cmp31 _ _ _ _ _).mono ?_
        rw [hc.out]
        rintro e w10 ⟨rfl, hb10⟩
        (have hz10 := hb10.size; (try simp at hz10))
        go_wp2_with (first | (go_at_call 23; refine (isSum23 _ (by first | exact H.r2 | exact H.s2 | assumption) _).mono ?_; rintro e wq ⟨rfl, rfl⟩))
        refine (works13 _).mono ?_
        rintro e w20 ⟨rfl, hb20⟩
        (have hz20 := hb20.size; (try simp at hz20))
        go_wp2
        go_ret
        exact ⟨rfl, by (repeat' (first | (with_reducible exact Below.refl _ _) | (with_reducible assumption) | (with_reducible refine Below.drew ?_) | (with_reducible refine below_drewN ?_ _) | (with_reducible refine Below.setCell ?_ ?_ _) | (with_reducible refine Below.alloc ?_ ?_ _) | (refine Below.trans ?_ (Below.mono (by with_reducible assumption) ?_)) | omega | (exact Below.size (by with_reducible assumption)) | (simp; done) | (simp; omega)))⟩
      · go_wp2_with (first | (go_at_call 23; refine (isSum23 _ (by first | exact H.r2 | exact H.s2 | assumption) _).mono ?_; rintro e wq ⟨rfl, rfl⟩))
        refine (works13 _).mono ?_
        rintro e w20 ⟨rfl, hb20⟩
        (have hz20 := hb20.size; (try simp at hz20))
        go_wp2
        go_ret
        exact ⟨rfl, by (repeat' (first | (with_reducible exact Below.refl _ _) | (with_reducible assumption) | (with_reducible refine Below.drew ?_) | (with_reducible refine below_drewN ?_ _) | (with_reducible refine Below.setCell ?_ ?_ _) | (with_reducible refine Below.alloc ?_ ?_ _) | (refine Below.trans ?_ (Below.mono (by with_reducible assumption) ?_)) | omega | (exact Below.size (by with_reducible assumption)) | (simp; done) | (simp; omega)))⟩
    · have hr0 : rn ≠ 0 := fun h => hf0 ((H.z rfl).1 h)
      have hq1 : (rn == 0) = false := by simpa using hr0
      have hq2 : (f == 0) = false := by simpa using hf0
      have hq3 : (!(rn == 0) == (f == 0)) = false := by rw [hq1, hq2]; rfl
      rcases (show se = 0 ∨ se = 2 from H.s2) with rfl | rfl
      · obtain ⟨x, hc, hx0⟩ := H.c rfl rfl
        go_wp2_with (first | (go_at_call 23; refine (isSum23 _ (by first | exact H.r2 | exact H.s2 | assumption) _).mono ?_; rintro e wq ⟨rfl, rfl⟩))
        refine (cmp31 _ _ _ _ _).mono ?_
        rw [hc.out]
        rintro e w10 ⟨rfl, hb10⟩
        (have hz10 := hb10.size; (try simp at hz10))
        go_wp2_with (first | (go_at_call 23; refine (isSum23 _ (by first | exact H.r2 | exact H.s2 | assumption) _).mono ?_; rintro e wq ⟨rfl, rfl⟩))
        refine (works13 _).mono ?_
        rintro e w20 ⟨rfl, hb20⟩
        (have hz20 := hb20.size; (try simp at hz20))
        go_wp2
        go_ret
        exact ⟨rfl, by (repeat' (first | (with_reducible exact Below.refl _ _) | (with_reducible assumption) | (with_reducible refine Below.drew ?_) | (with_reducible refine below_drewN ?_ _) | (with_reducible refine Below.setCell ?_ ?_ _) | (with_reducible refine Below.alloc ?_ ?_ _) | (refine Below.trans ?_ (Below.mono (by with_reducible assumption) ?_)) | omega | (exact Below.size (by with_reducible assumption)) | (simp; done) | (simp; omega)))⟩
      · go_wp2_with (first | (go_at_call 23; refine (isSum23 _ (by first | exact H.r2 | exact H.s2 | assumption) _).mono ?_; rintro e wq ⟨rfl, rfl⟩))
        refine (works13 _).mono ?_
        rintro e w20 ⟨rfl, hb20⟩
        (have hz20 := hb20.size; (try simp at hz20))
        go_wp2
        go_ret
        exact ⟨rfl, by (repeat' (first | (with_reducible exact Below.refl _ _) | (with_reducible assumption) | (with_reducible refine Below.drew ?_) | (with_reducible refine below_drewN ?_ _) | (with_reducible refine Below.setCell ?_ ?_ _) | (with_reducible refine Below.alloc ?_ ?_ _) | (refine Below.trans ?_ (Below.mono (by with_reducible assumption) ?_)) | omega | (exact Below.size (by with_reducible assumption)) | (simp; done) | (simp; omega)))⟩
  · go_wp2_with (first | (go_at_call 23; refine (isSum23 _ (by first | exact H.r2 | exact H.s2 | assumption) _).mono ?_; rintro e wq ⟨rfl, rfl⟩))
    refine (works13 _).mono ?_
    rintro e w20 ⟨rfl, hb20⟩
    (have hz20 := hb20.size; (try simp at hz20))
    go_wp2
    go_ret
    exact ⟨rfl, by (repeat' (first | (with_reducible exact Below.refl _ _) | (with_reducible assumption) | (with_reducible refine Below.drew ?_) | (with_reducible refine below_drewN ?_ _) | (with_reducible refine Below.setCell ?_ ?_ _) | (with_reducible refine Below.alloc ?_ ?_ _) | (refine Below.trans ?_ (Below.mono (by with_reducible assumption) ?_)) | omega | (exact Below.size (by with_reducible assumption)) | (simp; done) | (simp; omega)))⟩


set_option maxRecDepth 100000 in
set_option maxHeartbeats 16000000 in
theorem near7_01 (a b c d lo hi p q u v s : Int) (w : World) (HF : Hid ((armB a b c d lo hi && decide (400 < hi - lo)) = false)) (HA : Hid (armB a b c d lo hi = true)) (HR : Hid (ratB p q = true)) (HQ : Hid (ratB u v = true)) (h1 : 0 < p) (h2 : 0 < u) (h3 : lo ≤ s) (h4 : s ≤ hi) (ha : 1 ≤ a ∧ a ≤ 100) (hb : 1 ≤ b ∧ b ≤ 100) (hc : 1 ≤ c ∧ c ≤ 100) (hd : 1 ≤ d ∧ d ≤ 100) (hlo : 1 ≤ lo) (hhi : hi ≤ 10000) (hp : p ≤ 1000000) (hq : 1 ≤ q ∧ q ≤ 1000000) (n m f g rn rd re sn sd se : Int) (H : S7 a b c d lo hi p q u v s n m f g rn rd re sn sd se) (hbd : (-1000000000000 ≤ p * v ∧ p * v ≤ 1000000000000) ∧ (-1000000000000 ≤ u * q ∧ u * q ≤ 1000000000000)) (hx : p * v < u * q) (he : f = g) :
    Calls Try.prog 7 #[.agg #[.int .i64 a, .int .i64 b, .int .i64 c, .int .i64 d, .int .i64 lo, .int .i64 hi], .agg #[.int .i64 p, .int .i64 q, .int .i64 u, .int .i64 v], .int .i64 s] w fun e w' => e = .returned (.bool true) ∧ Below w.heap.size w w' := by
  obtain ⟨⟨_, _⟩, ⟨_, _⟩⟩ := hbd
  have n1 := H.n1
  have n2 := H.n2
  have m1 := H.m1
  have m2 := H.m2
  have fg := H.fg
  have fe := H.eq
  have nm := H.le (by omega)
  have ns := fe he; subst he
  try clear fe
  go_enter Try.func7, Try.ntmps7
  go_wp2_with fail
  refine (far24 _ _ _ _ _ _ _).mono ?_
  rw [HF.out]
  rintro e w1 ⟨rfl, hb1⟩
  (have hz1 := hb1.size; (try simp at hz1); have hc1_0 := fun o => (bcell hb1).1 (w.heap.size) o (by first | omega | (simp; done) | (simp; omega)); have hf1_0 := fun o => (bcell hb1).2 (w.heap.size) o (by first | omega | (simp; done) | (simp; omega)); have : w.heap.size < w1.heap.size := (by first | omega | (simp; done) | (simp; omega)); have : w.heap.size < w1.heap.size + 1 := (by first | omega | (simp; done) | (simp; omega)); have : w.heap.size < w1.heap.size + 2 := (by first | omega | (simp; done) | (simp; omega)); have : w.heap.size < w1.heap.size + 3 := (by first | omega | (simp; done) | (simp; omega)); have hc1_1 := fun o => (bcell hb1).1 (w.heap.size + 1) o (by first | omega | (simp; done) | (simp; omega)); have hf1_1 := fun o => (bcell hb1).2 (w.heap.size + 1) o (by first | omega | (simp; done) | (simp; omega)); have : w.heap.size + 1 < w1.heap.size := (by first | omega | (simp; done) | (simp; omega)); have : w.heap.size + 1 < w1.heap.size + 1 := (by first | omega | (simp; done) | (simp; omega)); have : w.heap.size + 1 < w1.heap.size + 2 := (by first | omega | (simp; done) | (simp; omega)); have : w.heap.size + 1 < w1.heap.size + 3 := (by first | omega | (simp; done) | (simp; omega)))
  go_wp2_with fail
  refine (isArm25 _ _ _ _ _ _ _).mono ?_
  rw [HA.out]
  rintro e w2 ⟨rfl, hb2⟩
  (have hz2 := hb2.size; (try simp at hz2); have hc2_0 := fun o => (bcell hb2).1 (w.heap.size) o (by first | omega | (simp; done) | (simp; omega)); have hf2_0 := fun o => (bcell hb2).2 (w.heap.size) o (by first | omega | (simp; done) | (simp; omega)); have : w.heap.size < w2.heap.size := (by first | omega | (simp; done) | (simp; omega)); have : w.heap.size < w2.heap.size + 1 := (by first | omega | (simp; done) | (simp; omega)); have : w.heap.size < w2.heap.size + 2 := (by first | omega | (simp; done) | (simp; omega)); have : w.heap.size < w2.heap.size + 3 := (by first | omega | (simp; done) | (simp; omega)); have hc2_1 := fun o => (bcell hb2).1 (w.heap.size + 1) o (by first | omega | (simp; done) | (simp; omega)); have hf2_1 := fun o => (bcell hb2).2 (w.heap.size + 1) o (by first | omega | (simp; done) | (simp; omega)); have : w.heap.size + 1 < w2.heap.size := (by first | omega | (simp; done) | (simp; omega)); have : w.heap.size + 1 < w2.heap.size + 1 := (by first | omega | (simp; done) | (simp; omega)); have : w.heap.size + 1 < w2.heap.size + 2 := (by first | omega | (simp; done) | (simp; omega)); have : w.heap.size + 1 < w2.heap.size + 3 := (by first | omega | (simp; done) | (simp; omega)))
  go_wp2_with fail
  refine (isRatio16 _ _ _).mono ?_
  rw [HR.out]
  rintro e w3 ⟨rfl, hb3⟩
  (have hz3 := hb3.size; (try simp at hz3); have hc3_0 := fun o => (bcell hb3).1 (w.heap.size) o (by first | omega | (simp; done) | (simp; omega)); have hf3_0 := fun o => (bcell hb3).2 (w.heap.size) o (by first | omega | (simp; done) | (simp; omega)); have : w.heap.size < w3.heap.size := (by first | omega | (simp; done) | (simp; omega)); have : w.heap.size < w3.heap.size + 1 := (by first | omega | (simp; done) | (simp; omega)); have : w.heap.size < w3.heap.size + 2 := (by first | omega | (simp; done) | (simp; omega)); have : w.heap.size < w3.heap.size + 3 := (by first | omega | (simp; done) | (simp; omega)); have hc3_1 := fun o => (bcell hb3).1 (w.heap.size + 1) o (by first | omega | (simp; done) | (simp; omega)); have hf3_1 := fun o => (bcell hb3).2 (w.heap.size + 1) o (by first | omega | (simp; done) | (simp; omega)); have : w.heap.size + 1 < w3.heap.size := (by first | omega | (simp; done) | (simp; omega)); have : w.heap.size + 1 < w3.heap.size + 1 := (by first | omega | (simp; done) | (simp; omega)); have : w.heap.size + 1 < w3.heap.size + 2 := (by first | omega | (simp; done) | (simp; omega)); have : w.heap.size + 1 < w3.heap.size + 3 := (by first | omega | (simp; done) | (simp; omega)))
  go_wp2_with fail
  refine (isRatio16 _ _ _).mono ?_
  rw [HQ.out]
  rintro e w4 ⟨rfl, hb4⟩
  (have hz4 := hb4.size; (try simp at hz4); have hc4_0 := fun o => (bcell hb4).1 (w.heap.size) o (by first | omega | (simp; done) | (simp; omega)); have hf4_0 := fun o => (bcell hb4).2 (w.heap.size) o (by first | omega | (simp; done) | (simp; omega)); have : w.heap.size < w4.heap.size := (by first | omega | (simp; done) | (simp; omega)); have : w.heap.size < w4.heap.size + 1 := (by first | omega | (simp; done) | (simp; omega)); have : w.heap.size < w4.heap.size + 2 := (by first | omega | (simp; done) | (simp; omega)); have : w.heap.size < w4.heap.size + 3 := (by first | omega | (simp; done) | (simp; omega)); have hc4_1 := fun o => (bcell hb4).1 (w.heap.size + 1) o (by first | omega | (simp; done) | (simp; omega)); have hf4_1 := fun o => (bcell hb4).2 (w.heap.size + 1) o (by first | omega | (simp; done) | (simp; omega)); have : w.heap.size + 1 < w4.heap.size := (by first | omega | (simp; done) | (simp; omega)); have : w.heap.size + 1 < w4.heap.size + 1 := (by first | omega | (simp; done) | (simp; omega)); have : w.heap.size + 1 < w4.heap.size + 2 := (by first | omega | (simp; done) | (simp; omega)); have : w.heap.size + 1 < w4.heap.size + 3 := (by first | omega | (simp; done) | (simp; omega)))
  go_wp2_with fail
  refine (set27 _ _ _ _ _ _ _ _ _).mono ?_
  rw [H.hn.out]
  rintro e w5 ⟨rfl, hb5⟩
  (have hz5 := hb5.size; (try simp at hz5); have hc5_0 := fun o => (bcell hb5).1 (w.heap.size) o (by first | omega | (simp; done) | (simp; omega)); have hf5_0 := fun o => (bcell hb5).2 (w.heap.size) o (by first | omega | (simp; done) | (simp; omega)); have : w.heap.size < w5.heap.size := (by first | omega | (simp; done) | (simp; omega)); have : w.heap.size < w5.heap.size + 1 := (by first | omega | (simp; done) | (simp; omega)); have : w.heap.size < w5.heap.size + 2 := (by first | omega | (simp; done) | (simp; omega)); have : w.heap.size < w5.heap.size + 3 := (by first | omega | (simp; done) | (simp; omega)); have hc5_1 := fun o => (bcell hb5).1 (w.heap.size + 1) o (by first | omega | (simp; done) | (simp; omega)); have hf5_1 := fun o => (bcell hb5).2 (w.heap.size + 1) o (by first | omega | (simp; done) | (simp; omega)); have : w.heap.size + 1 < w5.heap.size := (by first | omega | (simp; done) | (simp; omega)); have : w.heap.size + 1 < w5.heap.size + 1 := (by first | omega | (simp; done) | (simp; omega)); have : w.heap.size + 1 < w5.heap.size + 2 := (by first | omega | (simp; done) | (simp; omega)); have : w.heap.size + 1 < w5.heap.size + 3 := (by first | omega | (simp; done) | (simp; omega)))
  go_wp2_with fail
  refine (set27 _ _ _ _ _ _ _ _ _).mono ?_
  rw [H.hm.out]
  rintro e w6 ⟨rfl, hb6⟩
  (have hz6 := hb6.size; (try simp at hz6); have hc6_0 := fun o => (bcell hb6).1 (w.heap.size) o (by first | omega | (simp; done) | (simp; omega)); have hf6_0 := fun o => (bcell hb6).2 (w.heap.size) o (by first | omega | (simp; done) | (simp; omega)); have : w.heap.size < w6.heap.size := (by first | omega | (simp; done) | (simp; omega)); have : w.heap.size < w6.heap.size + 1 := (by first | omega | (simp; done) | (simp; omega)); have : w.heap.size < w6.heap.size + 2 := (by first | omega | (simp; done) | (simp; omega)); have : w.heap.size < w6.heap.size + 3 := (by first | omega | (simp; done) | (simp; omega)); have hc6_1 := fun o => (bcell hb6).1 (w.heap.size + 1) o (by first | omega | (simp; done) | (simp; omega)); have hf6_1 := fun o => (bcell hb6).2 (w.heap.size + 1) o (by first | omega | (simp; done) | (simp; omega)); have : w.heap.size + 1 < w6.heap.size := (by first | omega | (simp; done) | (simp; omega)); have : w.heap.size + 1 < w6.heap.size + 1 := (by first | omega | (simp; done) | (simp; omega)); have : w.heap.size + 1 < w6.heap.size + 2 := (by first | omega | (simp; done) | (simp; omega)); have : w.heap.size + 1 < w6.heap.size + 3 := (by first | omega | (simp; done) | (simp; omega)))
  have q29 : ∀ t w, t = n → Calls Try.prog 29 #[.agg #[.int .i64 a, .int .i64 b, .int .i64 c, .int .i64 d, .int .i64 lo, .int .i64 hi], .int .i64 t, .int .i64 1, .agg #[.int .i64 p, .int .i64 q]] w fun e w' => e = .returned (.int .i64 f) ∧ Below w.heap.size w w' := fun t w ht => by subst ht; have := farFrom29 a b c d lo hi t 1 p q w ha hb hc hd (by omega) (by omega) hq (by omega); rw [H.hf.out] at this; exact this
  have q29s : ∀ w, Calls Try.prog 29 #[.agg #[.int .i64 a, .int .i64 b, .int .i64 c, .int .i64 d, .int .i64 lo, .int .i64 hi], .int .i64 s, .int .i64 1, .agg #[.int .i64 p, .int .i64 q]] w fun e w' => e = .returned (.int .i64 f) ∧ Below w.heap.size w w' := fun w => by have := farFrom29 a b c d lo hi s 1 p q w ha hb hc hd (by omega) (by omega) hq (by omega); rw [H.hg.out] at this; exact this
  have o0 : Own w6 w.heap.size [.int .i64 a, .int .i64 b, .int .i64 c, .int .i64 d, .int .i64 lo, .int .i64 hi] := by (repeat' (first | (with_reducible assumption) | (with_reducible exact Own.mk (by with_reducible assumption) (by with_reducible assumption) (by with_reducible assumption)) | (with_reducible refine Own.new' _ _ (by first | rfl | (simp; done)) rfl) | (with_reducible refine Own.drew ?_) | (with_reducible refine Own.drewN ?_ _) | (with_reducible refine Own.alloc ?_ _) | (with_reducible refine Own.setOther ?_ ?_ _) | (refine Own.below ?_ (by with_reducible assumption) ?_) | omega | (simp; done) | (simp; omega)))
  have o1 : Own w6 (w.heap.size + 1) [.int .i64 p, .int .i64 q, .int .i64 u, .int .i64 v] := by (repeat' (first | (with_reducible assumption) | (with_reducible exact Own.mk (by with_reducible assumption) (by with_reducible assumption) (by with_reducible assumption)) | (with_reducible refine Own.new' _ _ (by first | rfl | (simp; done)) rfl) | (with_reducible refine Own.drew ?_) | (with_reducible refine Own.drewN ?_ _) | (with_reducible refine Own.alloc ?_ _) | (with_reducible refine Own.setOther ?_ ?_ _) | (refine Own.below ?_ (by with_reducible assumption) ?_) | omega | (simp; done) | (simp; omega)))
  have hx0 := Aft.cell o0
  have hx1 := Aft.cell o1
  go_wp2
  refine wp_region_aft (by kernel_rfl) (by kernel_rfl) ?_; (repeat (go_big_quiet_step ((go_at_call 29; first | exact aft_of (q29 _ _ rfl) | exact aft_of (q29s _))))); refine wpQuiet_nil ?_; rintro w7 ⟨⟨_, hb7⟩, rfl⟩
  have p0 := o0.below hb7 o0.lt
  have p1 := o1.below hb7 o1.lt
  clear hx0 hx1 q29 q29s
  obtain ⟨l0, c0, f0⟩ := p0
  obtain ⟨l1, c1, f1⟩ := p1
  have hbw : Below w.heap.size w w7 := by (repeat' (first | (with_reducible exact Below.refl _ _) | (with_reducible assumption) | (with_reducible refine Below.drew ?_) | (with_reducible refine below_drewN ?_ _) | (with_reducible refine Below.setCell ?_ ?_ _) | (with_reducible refine Below.alloc ?_ ?_ _) | (refine Below.trans ?_ (Below.mono (by with_reducible assumption) ?_)) | omega | (exact Below.size (by with_reducible assumption)) | (simp; done) | (simp; omega)))
  clear o0 o1 hb7
  go_wp2_with fail
  refine (off30 _ _ _ _ _ _ _ _ _ _).mono ?_
  rw [H.hr.out]
  rintro e w8 ⟨rfl, hb8⟩
  (have hz8 := hb8.size; (try simp at hz8); have hc8_0 := fun o => (bcell hb8).1 (w.heap.size) o (by first | omega | (simp; done) | (simp; omega)); have hf8_0 := fun o => (bcell hb8).2 (w.heap.size) o (by first | omega | (simp; done) | (simp; omega)); have : w.heap.size < w8.heap.size := (by first | omega | (simp; done) | (simp; omega)); have : w.heap.size < w8.heap.size + 1 := (by first | omega | (simp; done) | (simp; omega)); have : w.heap.size < w8.heap.size + 2 := (by first | omega | (simp; done) | (simp; omega)); have : w.heap.size < w8.heap.size + 3 := (by first | omega | (simp; done) | (simp; omega)); have hc8_1 := fun o => (bcell hb8).1 (w.heap.size + 1) o (by first | omega | (simp; done) | (simp; omega)); have hf8_1 := fun o => (bcell hb8).2 (w.heap.size + 1) o (by first | omega | (simp; done) | (simp; omega)); have : w.heap.size + 1 < w8.heap.size := (by first | omega | (simp; done) | (simp; omega)); have : w.heap.size + 1 < w8.heap.size + 1 := (by first | omega | (simp; done) | (simp; omega)); have : w.heap.size + 1 < w8.heap.size + 2 := (by first | omega | (simp; done) | (simp; omega)); have : w.heap.size + 1 < w8.heap.size + 3 := (by first | omega | (simp; done) | (simp; omega)))
  go_wp2_with fail
  refine (off30 _ _ _ _ _ _ _ _ _ _).mono ?_
  rw [H.hs.out]
  rintro e w9 ⟨rfl, hb9⟩
  (have hz9 := hb9.size; (try simp at hz9); have hc9_0 := fun o => (bcell hb9).1 (w.heap.size) o (by first | omega | (simp; done) | (simp; omega)); have hf9_0 := fun o => (bcell hb9).2 (w.heap.size) o (by first | omega | (simp; done) | (simp; omega)); have : w.heap.size < w9.heap.size := (by first | omega | (simp; done) | (simp; omega)); have : w.heap.size < w9.heap.size + 1 := (by first | omega | (simp; done) | (simp; omega)); have : w.heap.size < w9.heap.size + 2 := (by first | omega | (simp; done) | (simp; omega)); have : w.heap.size < w9.heap.size + 3 := (by first | omega | (simp; done) | (simp; omega)); have hc9_1 := fun o => (bcell hb9).1 (w.heap.size + 1) o (by first | omega | (simp; done) | (simp; omega)); have hf9_1 := fun o => (bcell hb9).2 (w.heap.size + 1) o (by first | omega | (simp; done) | (simp; omega)); have : w.heap.size + 1 < w9.heap.size := (by first | omega | (simp; done) | (simp; omega)); have : w.heap.size + 1 < w9.heap.size + 1 := (by first | omega | (simp; done) | (simp; omega)); have : w.heap.size + 1 < w9.heap.size + 2 := (by first | omega | (simp; done) | (simp; omega)); have : w.heap.size + 1 < w9.heap.size + 3 := (by first | omega | (simp; done) | (simp; omega)); have hc9_2 := fun o => (bcell hb9).1 (w8.heap.size) o (by first | omega | (simp; done) | (simp; omega)); have hf9_2 := fun o => (bcell hb9).2 (w8.heap.size) o (by first | omega | (simp; done) | (simp; omega)); have : w8.heap.size < w9.heap.size := (by first | omega | (simp; done) | (simp; omega)); have : w8.heap.size < w9.heap.size + 1 := (by first | omega | (simp; done) | (simp; omega)); have : w8.heap.size < w9.heap.size + 2 := (by first | omega | (simp; done) | (simp; omega)); have : w8.heap.size < w9.heap.size + 3 := (by first | omega | (simp; done) | (simp; omega)))
  rcases (show re = 0 ∨ re = 2 from H.r2) with rfl | rfl
  · by_cases hf0 : f = 0
    · obtain rfl : rn = 0 := (H.z rfl).2 hf0
      rcases (show se = 0 ∨ se = 2 from H.s2) with rfl | rfl
      · obtain ⟨x, hc, hx0⟩ := H.c rfl rfl
        go_wp2_with (first | (go_at_call 23; refine (isSum23 _ (by first | exact H.r2 | exact H.s2 | assumption) _).mono ?_; rintro e wq ⟨rfl, rfl⟩))
        refine (cmp31 _ _ _ _ _).mono ?_
        rw [hc.out]
        rintro e w10 ⟨rfl, hb10⟩
        (have hz10 := hb10.size; (try simp at hz10))
        go_wp2_with (first | (go_at_call 23; refine (isSum23 _ (by first | exact H.r2 | exact H.s2 | assumption) _).mono ?_; rintro e wq ⟨rfl, rfl⟩))
        refine (works13 _).mono ?_
        rintro e w20 ⟨rfl, hb20⟩
        (have hz20 := hb20.size; (try simp at hz20))
        go_wp2
        go_ret
        exact ⟨rfl, by (repeat' (first | (with_reducible exact Below.refl _ _) | (with_reducible assumption) | (with_reducible refine Below.drew ?_) | (with_reducible refine below_drewN ?_ _) | (with_reducible refine Below.setCell ?_ ?_ _) | (with_reducible refine Below.alloc ?_ ?_ _) | (refine Below.trans ?_ (Below.mono (by with_reducible assumption) ?_)) | omega | (exact Below.size (by with_reducible assumption)) | (simp; done) | (simp; omega)))⟩
      · go_wp2_with (first | (go_at_call 23; refine (isSum23 _ (by first | exact H.r2 | exact H.s2 | assumption) _).mono ?_; rintro e wq ⟨rfl, rfl⟩))
        refine (works13 _).mono ?_
        rintro e w20 ⟨rfl, hb20⟩
        (have hz20 := hb20.size; (try simp at hz20))
        go_wp2
        go_ret
        exact ⟨rfl, by (repeat' (first | (with_reducible exact Below.refl _ _) | (with_reducible assumption) | (with_reducible refine Below.drew ?_) | (with_reducible refine below_drewN ?_ _) | (with_reducible refine Below.setCell ?_ ?_ _) | (with_reducible refine Below.alloc ?_ ?_ _) | (refine Below.trans ?_ (Below.mono (by with_reducible assumption) ?_)) | omega | (exact Below.size (by with_reducible assumption)) | (simp; done) | (simp; omega)))⟩
    · have hr0 : rn ≠ 0 := fun h => hf0 ((H.z rfl).1 h)
      have hq1 : (rn == 0) = false := by simpa using hr0
      have hq2 : (f == 0) = false := by simpa using hf0
      have hq3 : (!(rn == 0) == (f == 0)) = false := by rw [hq1, hq2]; rfl
      rcases (show se = 0 ∨ se = 2 from H.s2) with rfl | rfl
      · obtain ⟨x, hc, hx0⟩ := H.c rfl rfl
        go_wp2_with (first | (go_at_call 23; refine (isSum23 _ (by first | exact H.r2 | exact H.s2 | assumption) _).mono ?_; rintro e wq ⟨rfl, rfl⟩))
        refine (cmp31 _ _ _ _ _).mono ?_
        rw [hc.out]
        rintro e w10 ⟨rfl, hb10⟩
        (have hz10 := hb10.size; (try simp at hz10))
        go_wp2_with (first | (go_at_call 23; refine (isSum23 _ (by first | exact H.r2 | exact H.s2 | assumption) _).mono ?_; rintro e wq ⟨rfl, rfl⟩))
        refine (works13 _).mono ?_
        rintro e w20 ⟨rfl, hb20⟩
        (have hz20 := hb20.size; (try simp at hz20))
        go_wp2
        go_ret
        exact ⟨rfl, by (repeat' (first | (with_reducible exact Below.refl _ _) | (with_reducible assumption) | (with_reducible refine Below.drew ?_) | (with_reducible refine below_drewN ?_ _) | (with_reducible refine Below.setCell ?_ ?_ _) | (with_reducible refine Below.alloc ?_ ?_ _) | (refine Below.trans ?_ (Below.mono (by with_reducible assumption) ?_)) | omega | (exact Below.size (by with_reducible assumption)) | (simp; done) | (simp; omega)))⟩
      · go_wp2_with (first | (go_at_call 23; refine (isSum23 _ (by first | exact H.r2 | exact H.s2 | assumption) _).mono ?_; rintro e wq ⟨rfl, rfl⟩))
        refine (works13 _).mono ?_
        rintro e w20 ⟨rfl, hb20⟩
        (have hz20 := hb20.size; (try simp at hz20))
        go_wp2
        go_ret
        exact ⟨rfl, by (repeat' (first | (with_reducible exact Below.refl _ _) | (with_reducible assumption) | (with_reducible refine Below.drew ?_) | (with_reducible refine below_drewN ?_ _) | (with_reducible refine Below.setCell ?_ ?_ _) | (with_reducible refine Below.alloc ?_ ?_ _) | (refine Below.trans ?_ (Below.mono (by with_reducible assumption) ?_)) | omega | (exact Below.size (by with_reducible assumption)) | (simp; done) | (simp; omega)))⟩
  · go_wp2_with (first | (go_at_call 23; refine (isSum23 _ (by first | exact H.r2 | exact H.s2 | assumption) _).mono ?_; rintro e wq ⟨rfl, rfl⟩))
    refine (works13 _).mono ?_
    rintro e w20 ⟨rfl, hb20⟩
    (have hz20 := hb20.size; (try simp at hz20))
    go_wp2
    go_ret
    exact ⟨rfl, by (repeat' (first | (with_reducible exact Below.refl _ _) | (with_reducible assumption) | (with_reducible refine Below.drew ?_) | (with_reducible refine below_drewN ?_ _) | (with_reducible refine Below.setCell ?_ ?_ _) | (with_reducible refine Below.alloc ?_ ?_ _) | (refine Below.trans ?_ (Below.mono (by with_reducible assumption) ?_)) | omega | (exact Below.size (by with_reducible assumption)) | (simp; done) | (simp; omega)))⟩


end Go.Proofs.Ytfboiplpfkommaa
