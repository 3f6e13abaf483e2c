/- Walks: Value, Off of the reference. -/
import Derived.Test.YtfboiplpfkommaaWl
import Derived.Deep.RegionHeld3
namespace Go.Proofs.Ytfboiplpfkommaa
open Go.RowKit

theorem wish_value {a b c d lo hi s : Int} : wishE a b c d lo hi 1 1 (btw s lo hi) = if armB a b c d lo hi then (if btw s lo hi then 0 else 1) else 11 := by
  have h : ratB 1 1 = true := by decide
  cases h1 : armB a b c d lo hi
  · simp [wishE, h1]
  · cases h2 : btw s lo hi
    · simp [wishE, h1, h]
    · simp [wishE, h1, h]

set_option maxHeartbeats 1000000 in
theorem value38 (a b c d lo hi s : Int) (w : World) :
    Calls Try.prog 38 #[.agg #[.int .i64 a, .int .i64 b, .int .i64 c, .int .i64 d, .int .i64 lo, .int .i64 hi], .int .i64 s] w fun e w' => e = .returned (.tuple #[.agg #[.int .i64 (valueR a b c d lo hi s).n, .int .i64 (valueR a b c d lo hi s).d], .int .i64 (valueR a b c d lo hi s).e]) ∧ Below w.heap.size w w' := by
  have o0 : Own ((w.alloc (.cells #[.int .i64 a, .int .i64 b, .int .i64 c, .int .i64 d, .int .i64 lo, .int .i64 hi] 41)).alloc (.cells #[.int .i64 0, .int .i64 0] 23)) w.heap.size [.int .i64 a, .int .i64 b, .int .i64 c, .int .i64 d, .int .i64 lo, .int .i64 hi] := (Own.new' _ _ rfl rfl).alloc _
  have o1 : Own ((w.alloc (.cells #[.int .i64 a, .int .i64 b, .int .i64 c, .int .i64 d, .int .i64 lo, .int .i64 hi] 41)).alloc (.cells #[.int .i64 0, .int .i64 0] 23)) (w.heap.size + 1) [.int .i64 0, .int .i64 0] := Own.new' _ _ (by simp) rfl
  have hx0 := Aft.cell o0
  by_cases hw : wishE a b c d lo hi 1 1 (btw s lo hi) = 0
  · obtain ⟨h1, _, h4, _⟩ := wishE_ok hw
    have hv : valueR a b c d lo hi s = told (s * a * c) (b * d) := by simp [valueR, h1, h4]
    rw [hv]; clear hv
    have HW := Lib.hid hw
    clear hw
    obtain ⟨ha, hb, hc, hd, ⟨hl, hlh⟩, hh⟩ := armB_iff.1 h1
    have hs := btw_iff.1 h4
    have hs' : 1 ≤ s ∧ s ≤ 10000 := by omega
    obtain ⟨⟨g1, g2⟩, ⟨g3, g4⟩, ⟨g5, g6⟩⟩ := arm_mul ha hb hc hd hs'
    clear h1 h4
    go_enter Try.func38, Try.ntmps38
    go_wp2
    refine wp_region_aft (by kernel_rfl) (by kernel_rfl) ?_; (repeat (go_big_quiet_step ((first | (go_at_call 26; exact aft_same (within26 _ _ _ _)) | (go_at_call 75; exact aft_of (check75 _ _ _ _ _ _ _ _ _ _)))))); refine wpQuiet_nil ?_; rintro w1 ⟨⟨_, hb1⟩, rfl⟩
    rw [HW.out]
    have q0 := o0.below hb1 o0.lt
    have q1 := o1.below hb1 o1.lt
    clear hx0
    obtain ⟨m0, c0, f0⟩ := q0
    obtain ⟨m1, c1, f1⟩ := q1
    have hbw : Below w.heap.size w w1 := by (repeat' (first | (with_reducible exact Below.refl _ _) | (with_reducible assumption) | (with_reducible refine Below.drew ?_) | (with_reducible refine below_drewN ?_ _) | (with_reducible refine Below.setCell ?_ ?_ _) | (with_reducible refine Below.alloc ?_ ?_ _) | (refine Below.trans ?_ (Below.mono (by with_reducible assumption) ?_)) | omega | (exact Below.size (by with_reducible assumption)) | (simp; done) | (simp; omega)))
    clear o0 o1 hb1
    go_wp2_with fail
    refine (valueOf66 _ _ _ _ _ _ _ _ ha hb hc hd hs').mono ?_
    rintro e w2 ⟨rfl, hb2⟩
    (have hz2 := hb2.size; (try simp at hz2); have hc2_0 := fun o => (bcell hb2).1 (w.heap.size) o (by first | omega | (simp; done) | (simp; omega)); have hf2_0 := fun o => (bcell hb2).2 (w.heap.size) o (by first | omega | (simp; done) | (simp; omega)); have : w.heap.size < w2.heap.size := (by first | omega | (simp; done) | (simp; omega)); have : w.heap.size < w2.heap.size + 1 := (by first | omega | (simp; done) | (simp; omega)); have : w.heap.size < w2.heap.size + 2 := (by first | omega | (simp; done) | (simp; omega)); have : w.heap.size < w2.heap.size + 3 := (by first | omega | (simp; done) | (simp; omega)); have hc2_1 := fun o => (bcell hb2).1 (w.heap.size + 1) o (by first | omega | (simp; done) | (simp; omega)); have hf2_1 := fun o => (bcell hb2).2 (w.heap.size + 1) o (by first | omega | (simp; done) | (simp; omega)); have : w.heap.size + 1 < w2.heap.size := (by first | omega | (simp; done) | (simp; omega)); have : w.heap.size + 1 < w2.heap.size + 1 := (by first | omega | (simp; done) | (simp; omega)); have : w.heap.size + 1 < w2.heap.size + 2 := (by first | omega | (simp; done) | (simp; omega)); have : w.heap.size + 1 < w2.heap.size + 3 := (by first | omega | (simp; done) | (simp; omega)))
    go_wp2_with fail
    refine (result72 _ _ _ (by omega) (by omega) (by omega) (by omega)).mono ?_
    rintro e w3 ⟨rfl, hb3⟩
    (have hz3 := hb3.size; (try simp at hz3); have hc3_0 := fun o => (bcell hb3).1 (w.heap.size) o (by first | omega | (simp; done) | (simp; omega)); have hf3_0 := fun o => (bcell hb3).2 (w.heap.size) o (by first | omega | (simp; done) | (simp; omega)); have : w.heap.size < w3.heap.size := (by first | omega | (simp; done) | (simp; omega)); have : w.heap.size < w3.heap.size + 1 := (by first | omega | (simp; done) | (simp; omega)); have : w.heap.size < w3.heap.size + 2 := (by first | omega | (simp; done) | (simp; omega)); have : w.heap.size < w3.heap.size + 3 := (by first | omega | (simp; done) | (simp; omega)); have hc3_1 := fun o => (bcell hb3).1 (w.heap.size + 1) o (by first | omega | (simp; done) | (simp; omega)); have hf3_1 := fun o => (bcell hb3).2 (w.heap.size + 1) o (by first | omega | (simp; done) | (simp; omega)); have : w.heap.size + 1 < w3.heap.size := (by first | omega | (simp; done) | (simp; omega)); have : w.heap.size + 1 < w3.heap.size + 1 := (by first | omega | (simp; done) | (simp; omega)); have : w.heap.size + 1 < w3.heap.size + 2 := (by first | omega | (simp; done) | (simp; omega)); have : w.heap.size + 1 < w3.heap.size + 3 := (by first | omega | (simp; done) | (simp; omega)))
    go_wp2
    refine bodyPost_ret (v := .tuple #[.agg #[.int .i64 (told (s * a * c) (b * d)).n, .int .i64 (told (s * a * c) (b * d)).d], .int .i64 (told (s * a * c) (b * d)).e]) (by simp [results, Try.results38, go_sem, *]) rfl ⟨rfl, ?_⟩
    (repeat' (first | (with_reducible exact Below.refl _ _) | (with_reducible assumption) | (with_reducible refine Below.drew ?_) | (with_reducible refine below_drewN ?_ _) | (with_reducible refine Below.setCell ?_ ?_ _) | (with_reducible refine Below.alloc ?_ ?_ _) | (refine Below.trans ?_ (Below.mono (by with_reducible assumption) ?_)) | omega | (exact Below.size (by with_reducible assumption)) | (simp; done) | (simp; omega)))
  · have hv : valueR a b c d lo hi s = ⟨0, 0, wishE a b c d lo hi 1 1 (btw s lo hi)⟩ := by
      rw [wish_value] at hw ⊢
      unfold valueR
      cases h1 : armB a b c d lo hi
      · simp
      · cases h2 : btw s lo hi
        · simp
        · rw [h1, h2] at hw; simp at hw
    rw [hv]; clear hv
    generalize hE : wishE a b c d lo hi 1 1 (btw s lo hi) = E at *
    have HE := Lib.hid hE
    clear hE
    go_enter Try.func38, Try.ntmps38
    go_wp2
    refine wp_region_aft (by kernel_rfl) (by kernel_rfl) ?_; (repeat (go_big_quiet_step ((first | (go_at_call 26; exact aft_same (within26 _ _ _ _)) | (go_at_call 75; exact aft_of (check75 _ _ _ _ _ _ _ _ _ _)))))); refine wpQuiet_nil ?_; rintro w1 ⟨⟨_, hb1⟩, rfl⟩
    rw [HE.out]
    have q1 := o1.below hb1 o1.lt
    have hbw : Below w.heap.size w w1 := by (repeat' (first | (with_reducible exact Below.refl _ _) | (with_reducible assumption) | (with_reducible refine Below.drew ?_) | (with_reducible refine below_drewN ?_ _) | (with_reducible refine Below.setCell ?_ ?_ _) | (with_reducible refine Below.alloc ?_ ?_ _) | (refine Below.trans ?_ (Below.mono (by with_reducible assumption) ?_)) | omega | (exact Below.size (by with_reducible assumption)) | (simp; done) | (simp; omega)))
    clear o0 o1 hx0 hb1
    obtain ⟨m1, c1, f1⟩ := q1
    go_wp2
    refine bodyPost_ret (v := .tuple #[.agg #[.int .i64 0, .int .i64 0], .int .i64 E]) (by simp [results, Try.results38, go_sem, *]) rfl ⟨rfl, ?_⟩
    (repeat' (first | (with_reducible exact Below.refl _ _) | (with_reducible assumption) | (with_reducible refine Below.drew ?_) | (with_reducible refine below_drewN ?_ _) | (with_reducible refine Below.setCell ?_ ?_ _) | (with_reducible refine Below.alloc ?_ ?_ _) | (refine Below.trans ?_ (Below.mono (by with_reducible assumption) ?_)) | omega | (exact Below.size (by with_reducible assumption)) | (simp; done) | (simp; omega)))

set_option maxRecDepth 100000 in
set_option maxHeartbeats 8000000 in
theorem off40 (a b c d lo hi s p q : Int) (w : World) :
    Calls Try.prog 40 #[.agg #[.int .i64 a, .int .i64 b, .int .i64 c, .int .i64 d, .int .i64 lo, .int .i64 hi], .int .i64 s, .agg #[.int .i64 p, .int .i64 q]] w fun e w' => e = .returned (.tuple #[.agg #[.int .i64 (offR a b c d lo hi s p q).n, .int .i64 (offR a b c d lo hi s p q).d], .int .i64 (offR a b c d lo hi s p q).e]) ∧ Below w.heap.size w w' := by
  have o0 : Own (((w.alloc (.cells #[.int .i64 a, .int .i64 b, .int .i64 c, .int .i64 d, .int .i64 lo, .int .i64 hi] 41)).alloc (.cells #[.int .i64 p, .int .i64 q] 23)).alloc (.cells #[.int .i64 0, .int .i64 0] 23)) w.heap.size [.int .i64 a, .int .i64 b, .int .i64 c, .int .i64 d, .int .i64 lo, .int .i64 hi] := ((Own.new' _ _ rfl rfl).alloc _).alloc _
  have o1 : Own (((w.alloc (.cells #[.int .i64 a, .int .i64 b, .int .i64 c, .int .i64 d, .int .i64 lo, .int .i64 hi] 41)).alloc (.cells #[.int .i64 p, .int .i64 q] 23)).alloc (.cells #[.int .i64 0, .int .i64 0] 23)) (w.heap.size + 1) [.int .i64 p, .int .i64 q] := (Own.new' _ _ (by simp) rfl).alloc _
  have o2 : Own (((w.alloc (.cells #[.int .i64 a, .int .i64 b, .int .i64 c, .int .i64 d, .int .i64 lo, .int .i64 hi] 41)).alloc (.cells #[.int .i64 p, .int .i64 q] 23)).alloc (.cells #[.int .i64 0, .int .i64 0] 23)) (w.heap.size + 2) [.int .i64 0, .int .i64 0] := Own.new' _ _ (by simp) rfl
  have hx0 := Aft.cell o0
  have hx1 := Aft.cell o1
  by_cases hw : wishE a b c d lo hi p q (btw s lo hi) = 0
  · have hv : offR a b c d lo hi s p q = told (offV a b c d p q s) (p * (b * d)) := by simp [offR, hw]
    rw [hv]; clear hv
    obtain ⟨h1, h2, h4, h3⟩ := wishE_ok hw
    have HW := Lib.hid hw
    clear hw
    obtain ⟨ha, hb, hc, hd, ⟨hl, hlh⟩, hh⟩ := armB_iff.1 h1
    obtain ⟨⟨hq, hq'⟩, hp, hp'⟩ := ratB_iff.1 h2
    have hs := btw_iff.1 h4
    have hs' : 1 ≤ s ∧ s ≤ 10000 := by omega
    have hob : 0 ≤ offV a b c d p q s ∧ offV a b c d p q s ≤ 2000000000000000000 := by
      have := arm_off ha hb hc hd hs' ⟨hp, hp'⟩ (show 1 ≤ q ∧ q ≤ 10000000000 by omega)
      unfold offV; omega
    have hpb : 1 ≤ p * (b * d) ∧ p * (b * d) ≤ 10000000000 := by
      have e1 := arm_off ha hb hc hd hs' ⟨hp, hp'⟩ (show 1 ≤ q ∧ q ≤ 10000000000 by omega)
      have e2 := arm_mul ha hb hc hd hs'
      have e3 := Int.mul_pos h3 (show 0 < b * d by omega)
      omega
    clear h1 h2 h4
    go_enter Try.func40, Try.ntmps40
    go_wp2
    refine wp_region_aft (by kernel_rfl) (by kernel_rfl) ?_; (repeat (go_big_quiet_step ((first | (go_at_call 26; exact aft_same (within26 _ _ _ _)) | (go_at_call 75; exact aft_of (check75 _ _ _ _ _ _ _ _ _ _)))))); refine wpQuiet_nil ?_; rintro w1 ⟨⟨_, hb1⟩, rfl⟩
    rw [HW.out]
    have q0 := o0.below hb1 o0.lt
    have q1 := o1.below hb1 o1.lt
    have q2 := o2.below hb1 o2.lt
    have hbw : Below w.heap.size w w1 := by (repeat' (first | (with_reducible exact Below.refl _ _) | (with_reducible assumption) | (with_reducible refine Below.drew ?_) | (with_reducible refine below_drewN ?_ _) | (with_reducible refine Below.setCell ?_ ?_ _) | (with_reducible refine Below.alloc ?_ ?_ _) | (refine Below.trans ?_ (Below.mono (by with_reducible assumption) ?_)) | omega | (exact Below.size (by with_reducible assumption)) | (simp; done) | (simp; omega)))
    clear o0 o1 o2 hb1 hx0 hx1
    go_upto_region 4 with fail
    go_cut [7] (fun s7 wx => s7 = .int .i64 (told (offV a b c d p q s) (p * (b * d))).e ∧ Own wx (w.heap.size + 2) [.int .i64 (told (offV a b c d p q s) (p * (b * d))).n, .int .i64 (told (offV a b c d p q s) (p * (b * d))).d] ∧ Below w.heap.size w wx)
    case first =>
      have hfd : ∀ W : World, (Instr.field 23 (.agg #[.int .i64 (s * a * c), .int .i64 (b * d)]) 1).run Try.prog W = .ok (.int .i64 (b * d)) W := fun _ => by kernel_rfl
      have hwr : IntKind.i64.wrap (p * (b * d)) = p * (b * d) := IntWalk.i64_in _ (by omega)
      have m0 := q0.lt
      have m1 := q1.lt
      have m2 := q2.lt
      have c2 := q2.c
      have f2 := q2.f
      have hqq : Hid (offV a b c d p (q * (1 * 1)) s = offV a b c d p q s) := by show _ = _; simp
      have hfar : ∀ W : World, Calls Try.prog 29 #[.agg #[.int .i64 a, .int .i64 b, .int .i64 c, .int .i64 d, .int .i64 lo, .int .i64 hi], .int .i64 s, .int .i64 1, .agg #[.int .i64 p, .int .i64 q]] W fun e w' => e = .returned (.int .i64 (offV a b c d p q s)) ∧ Below W.heap.size W w' := fun W => by
        have := farFrom29 a b c d lo hi s 1 p q W ha hb hc hd hs' ⟨hp, hp'⟩ ⟨hq, hq'⟩ (by omega)
        rw [hqq.out] at this; exact this
      have Hfar := Lib.hid hfar
      clear hfar hqq
      go_region_held3 (fun w' => Own w' w.heap.size [.int .i64 a, .int .i64 b, .int .i64 c, .int .i64 d, .int .i64 lo, .int .i64 hi] ∧ Own w' (w.heap.size + 1) [.int .i64 p, .int .i64 q] ∧ (∀ i, w'.cell? ⟨w.heap.size, i, none⟩ = [.int .i64 a, .int .i64 b, .int .i64 c, .int .i64 d, .int .i64 lo, .int .i64 hi][i]?) ∧ (∀ i, w'.cell? ⟨w.heap.size + 1, i, none⟩ = [.int .i64 p, .int .i64 q][i]?)) ((refine ⟨?_, ?_, Own.c ?_, Own.c ?_⟩ <;> (repeat' (first | (with_reducible assumption) | (with_reducible exact Own.mk (by with_reducible assumption) (by with_reducible assumption) (by with_reducible assumption)) | (with_reducible refine Own.new' _ _ (by first | rfl | (simp; done)) rfl) | (with_reducible refine Own.drew ?_) | (with_reducible refine Own.drewN ?_ _) | (with_reducible refine Own.alloc ?_ _) | (with_reducible refine Own.setOther ?_ ?_ _) | (refine Own.below ?_ (by with_reducible assumption) ?_) | omega | (simp; done) | (simp; omega))))) ((first | (go_at_call 29; refine (Hfar.out _).mono ?_; rintro e w2 ⟨rfl, hb2⟩; have hz2 := hb2.size; (try simp at hz2); have k3 := fun o => (bcell hb2).1 (w.heap.size + 2) o (by first | omega | (simp; done) | (simp; omega)); have k4 := fun o => (bcell hb2).2 (w.heap.size + 2) o (by first | omega | (simp; done) | (simp; omega))) | (go_at_call 66; refine (valueOf66 _ _ _ _ _ _ _ _ ha hb hc hd hs').mono ?_; rintro e w3 ⟨rfl, hb3⟩; have hz3 := hb3.size; (try simp at hz3); have k3 := fun o => (bcell hb3).1 (w.heap.size + 2) o (by first | omega | (simp; done) | (simp; omega)); have k4 := fun o => (bcell hb3).2 (w.heap.size + 2) o (by first | omega | (simp; done) | (simp; omega))) | (go_at_call 72; refine (result72 _ _ _ (by omega) (by omega) (by omega) (by omega)).mono ?_; rintro e w4 ⟨rfl, hb4⟩; have hz4 := hb4.size; (try simp at hz4); have k3 := fun o => (bcell hb4).1 (w.heap.size + 2) o (by first | omega | (simp; done) | (simp; omega)); have k4 := fun o => (bcell hb4).2 (w.heap.size + 2) o (by first | omega | (simp; done) | (simp; omega)))))
      all_goals
        go_wp2_with fail
        go_meet
        refine ⟨rfl, ?_, by (repeat' (first | (with_reducible exact Below.refl _ _) | (with_reducible assumption) | (with_reducible refine Below.drew ?_) | (with_reducible refine below_drewN ?_ _) | (with_reducible refine Below.setCell ?_ ?_ _) | (with_reducible refine Below.alloc ?_ ?_ _) | (refine Below.trans ?_ (Below.mono (by with_reducible assumption) ?_)) | omega | (exact Below.size (by with_reducible assumption)) | (simp; done) | (simp; omega)))⟩
        first
        | (with_reducible refine own_set2 (vs := [.int .i64 0, .int .i64 0]) ?_ rfl _ _; (repeat' (first | (with_reducible assumption) | (with_reducible exact Own.mk (by with_reducible assumption) (by with_reducible assumption) (by with_reducible assumption)) | (with_reducible refine Own.new' _ _ (by first | rfl | (simp; done)) rfl) | (with_reducible refine Own.drew ?_) | (with_reducible refine Own.drewN ?_ _) | (with_reducible refine Own.alloc ?_ _) | (with_reducible refine Own.setOther ?_ ?_ _) | (refine Own.below ?_ (by with_reducible assumption) ?_) | omega | (simp; done) | (simp; omega))))
        | (with_reducible refine Own.drew ?_; with_reducible refine own_set2 (vs := [.int .i64 0, .int .i64 0]) ?_ rfl _ _; (repeat' (first | (with_reducible assumption) | (with_reducible exact Own.mk (by with_reducible assumption) (by with_reducible assumption) (by with_reducible assumption)) | (with_reducible refine Own.new' _ _ (by first | rfl | (simp; done)) rfl) | (with_reducible refine Own.drew ?_) | (with_reducible refine Own.drewN ?_ _) | (with_reducible refine Own.alloc ?_ _) | (with_reducible refine Own.setOther ?_ ?_ _) | (refine Own.below ?_ (by with_reducible assumption) ?_) | omega | (simp; done) | (simp; omega))))
    case rest =>
      obtain ⟨rfl, ⟨l2, c2, f2⟩, hbw⟩ := hcut
      go_wp2
      refine bodyPost_ret (v := .tuple #[.agg #[.int .i64 (told (offV a b c d p q s) (p * (b * d))).n, .int .i64 (told (offV a b c d p q s) (p * (b * d))).d], .int .i64 (told (offV a b c d p q s) (p * (b * d))).e]) (by simp [results, Try.results40, go_sem, *]) rfl ⟨rfl, hbw⟩
  · have hv : offR a b c d lo hi s p q = ⟨0, 0, wishE a b c d lo hi p q (btw s lo hi)⟩ := by simp [offR, hw]
    rw [hv]; clear hv
    generalize hE : wishE a b c d lo hi p q (btw s lo hi) = E at *
    have HE := Lib.hid hE
    clear hE
    go_enter Try.func40, Try.ntmps40
    go_wp2
    refine wp_region_aft (by kernel_rfl) (by kernel_rfl) ?_; (repeat (go_big_quiet_step ((first | (go_at_call 26; exact aft_same (within26 _ _ _ _)) | (go_at_call 75; exact aft_of (check75 _ _ _ _ _ _ _ _ _ _)))))); refine wpQuiet_nil ?_; rintro w1 ⟨⟨_, hb1⟩, rfl⟩
    rw [HE.out]
    have q2 := o2.below hb1 o2.lt
    have hbw : Below w.heap.size w w1 := by (repeat' (first | (with_reducible exact Below.refl _ _) | (with_reducible assumption) | (with_reducible refine Below.drew ?_) | (with_reducible refine below_drewN ?_ _) | (with_reducible refine Below.setCell ?_ ?_ _) | (with_reducible refine Below.alloc ?_ ?_ _) | (refine Below.trans ?_ (Below.mono (by with_reducible assumption) ?_)) | omega | (exact Below.size (by with_reducible assumption)) | (simp; done) | (simp; omega)))
    clear o0 o1 o2 hx0 hx1 hb1
    obtain ⟨m1, c1, f1⟩ := q2
    go_wp2
    refine bodyPost_ret (v := .tuple #[.agg #[.int .i64 0, .int .i64 0], .int .i64 E]) (by simp [results, Try.results40, go_sem, *]) rfl ⟨rfl, ?_⟩
    (repeat' (first | (with_reducible exact Below.refl _ _) | (with_reducible assumption) | (with_reducible refine Below.drew ?_) | (with_reducible refine below_drewN ?_ _) | (with_reducible refine Below.setCell ?_ ?_ _) | (with_reducible refine Below.alloc ?_ ?_ _) | (refine Below.trans ?_ (Below.mono (by with_reducible assumption) ?_)) | omega | (exact Below.size (by with_reducible assumption)) | (simp; done) | (simp; omega)))

end Go.Proofs.Ytfboiplpfkommaa
