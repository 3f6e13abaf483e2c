/- Walks: Scale, Off of the program. -/
import Derived.Test.YtfboiplpfkommaaWj
import Derived.Deep.RegionHeld3
import Derived.Deep.DeepCutAuto
namespace Go.Proofs.Ytfboiplpfkommaa
open Go.RowKit

set_option maxHeartbeats 2000000 in
theorem scale28 (a b c d lo hi sc p q : Int) (w : World) :
    Calls Try.prog 28 #[.agg #[.int .i64 a, .int .i64 b, .int .i64 c, .int .i64 d, .int .i64 lo, .int .i64 hi], .int .i64 sc, .agg #[.int .i64 p, .int .i64 q]] w fun e w' => e = .returned (.tuple #[.int .i64 (scaleR a b c d lo hi sc p q).n, .int .i64 (scaleR a b c d lo hi sc p q).e]) ∧ Below w.heap.size w w' := by
  by_cases hw : wishE a b c d lo hi p q (btw sc 1 100) = 0
  · have hv : scaleR a b c d lo hi sc p q = ⟨setV a b c d lo hi p (q * (sc * sc)), 0⟩ := by simp [scaleR, hw]
    rw [hv]; clear hv
    obtain ⟨h1, h2, h4, h3⟩ := wishE_ok hw
    clear hw
    obtain ⟨ha, hb, hc, hd, ⟨hl, hlh⟩, hh⟩ := armB_iff.1 h1
    obtain ⟨⟨hq, hq'⟩, hp, hp'⟩ := ratB_iff.1 h2
    have hsc := btw_iff.1 h4
    obtain ⟨g1, g2⟩ := (arm_off2 ha hb hc hd (show 1 ≤ lo ∧ lo ≤ 10000 by omega) ⟨hp, hp'⟩ ⟨hq, hq'⟩ hsc).2.2.2.2
    have g3 := (@mul_bd sc sc 100 100 (by omega) (by omega) (by omega) (by omega) (by omega) (by omega)).1
    have g4 := (@mul_bd sc sc 100 100 (by omega) (by omega) (by omega) (by omega) (by omega) (by omega)).2
    have H1 := Lib.hid h1
    have H2 := Lib.hid h2
    clear h1 h2
    go_enter Try.func28, Try.ntmps28
    go_upto_region 1 with fail
    go_cut [8, 9] (fun s8 s9 wx => ∃ g : Nat, s8 = .pointer (some ⟨g, 0, none⟩) ∧ s9 = .int .i64 0 ∧ Own wx g [.int .i64 a, .int .i64 b, .int .i64 c, .int .i64 d, .int .i64 lo, .int .i64 hi, .int .i64 p, .int .i64 q] ∧ Below w.heap.size w wx ∧ w.heap.size + 1 < g)
    case first =>
      have o0 : Own ((w.alloc (.cells #[.int .i64 a, .int .i64 b, .int .i64 c, .int .i64 d, .int .i64 lo, .int .i64 hi] 41)).alloc (.cells #[.int .i64 p, .int .i64 q] 23)) w.heap.size [.int .i64 a, .int .i64 b, .int .i64 c, .int .i64 d, .int .i64 lo, .int .i64 hi] := (Own.new' _ _ rfl rfl).alloc _
      have o1 : Own ((w.alloc (.cells #[.int .i64 a, .int .i64 b, .int .i64 c, .int .i64 d, .int .i64 lo, .int .i64 hi] 41)).alloc (.cells #[.int .i64 p, .int .i64 q] 23)) (w.heap.size + 1) [.int .i64 p, .int .i64 q] := Own.new' _ _ (by simp) rfl
      have hB : Below w.heap.size w ((w.alloc (.cells #[.int .i64 a, .int .i64 b, .int .i64 c, .int .i64 d, .int .i64 lo, .int .i64 hi] 41)).alloc (.cells #[.int .i64 p, .int .i64 q] 23)) := by (repeat' (first | (with_reducible exact Below.refl _ _) | (with_reducible assumption) | (with_reducible refine Below.drew ?_) | (with_reducible refine below_drewN ?_ _) | (with_reducible refine Below.setCell ?_ ?_ _) | (with_reducible refine Below.alloc ?_ ?_ _) | (refine Below.trans ?_ (Below.mono (by with_reducible assumption) ?_)) | omega | (exact Below.size (by with_reducible assumption)) | (simp; done) | (simp; omega)))
      generalize ((w.alloc (.cells #[.int .i64 a, .int .i64 b, .int .i64 c, .int .i64 d, .int .i64 lo, .int .i64 hi] 41)).alloc (.cells #[.int .i64 p, .int .i64 q] 23)) = W at *
      have l0 := o0.lt
      have l1 := o1.lt
      have oz : Own (W.alloc (.cells #[.int .i64 0, .int .i64 0, .int .i64 0, .int .i64 0, .int .i64 0, .int .i64 0, .int .i64 0, .int .i64 0] 87)) W.heap.size [.int .i64 0, .int .i64 0, .int .i64 0, .int .i64 0, .int .i64 0, .int .i64 0, .int .i64 0, .int .i64 0] := Own.new' _ _ rfl rfl
      go_region_held3 (fun w' => Own w' w.heap.size [.int .i64 a, .int .i64 b, .int .i64 c, .int .i64 d, .int .i64 lo, .int .i64 hi] ∧ Own w' (w.heap.size + 1) [.int .i64 p, .int .i64 q] ∧ (∀ i, w'.cell? ⟨w.heap.size, i, none⟩ = [.int .i64 a, .int .i64 b, .int .i64 c, .int .i64 d, .int .i64 lo, .int .i64 hi][i]?) ∧ (∀ i, w'.cell? ⟨w.heap.size + 1, i, none⟩ = [.int .i64 p, .int .i64 q][i]?)) ((refine ⟨?_, ?_, Own.c ?_, Own.c ?_⟩ <;> (repeat' (first | (with_reducible assumption) | (with_reducible exact Own.mk (by with_reducible assumption) (by with_reducible assumption) (by with_reducible assumption)) | (with_reducible refine Own.new' _ _ (by first | rfl | (simp; done)) rfl) | (with_reducible refine Own.drew ?_) | (with_reducible refine Own.drewN ?_ _) | (with_reducible refine Own.alloc ?_ _) | (with_reducible refine Own.setOther ?_ ?_ _) | (refine Own.below ?_ (by with_reducible assumption) ?_) | omega | (simp; done) | (simp; omega))))) ((first | (go_at_call 53; refine (within53 _ _ _ _).mono ?_; rintro e w1 ⟨rfl, rfl⟩) | (go_at_call 64; refine (wishFor64_ok _ _ _ _ _ _ _ _ _ H1.out H2.out h3).mono ?_; rintro e w1 ⟨rfl, hb1⟩; have hz1 := hb1.size; (try simp at hz1); (try (have hcn := fun o => (bcell hb1).1 W.heap.size o (by first | omega | (simp; done) | (simp; omega)))); (try (have hfn := fun o => (bcell hb1).2 W.heap.size o (by first | omega | (simp; done) | (simp; omega)))))))
      all_goals
        go_wp2_with fail
        go_meet
        refine ⟨_, rfl, rfl, ?_, ?_, ?_⟩
        · first
          | (with_reducible refine Own.new' _ _ rfl rfl)
          | (with_reducible refine Own.drew ?_; with_reducible refine own_set8 (vs := [.int .i64 0, .int .i64 0, .int .i64 0, .int .i64 0, .int .i64 0, .int .i64 0, .int .i64 0, .int .i64 0]) ?_ rfl _ _ _ _ _ _ _ _; (repeat' (first | (with_reducible assumption) | (with_reducible exact Own.mk (by with_reducible assumption) (by with_reducible assumption) (by with_reducible assumption)) | (with_reducible refine Own.new' _ _ (by first | rfl | (simp; done)) rfl) | (with_reducible refine Own.drew ?_) | (with_reducible refine Own.drewN ?_ _) | (with_reducible refine Own.alloc ?_ _) | (with_reducible refine Own.setOther ?_ ?_ _) | (refine Own.below ?_ (by with_reducible assumption) ?_) | omega | (simp; done) | (simp; omega))))
          | (with_reducible refine own_set8 (vs := [.int .i64 0, .int .i64 0, .int .i64 0, .int .i64 0, .int .i64 0, .int .i64 0, .int .i64 0, .int .i64 0]) ?_ rfl _ _ _ _ _ _ _ _; (repeat' (first | (with_reducible assumption) | (with_reducible exact Own.mk (by with_reducible assumption) (by with_reducible assumption) (by with_reducible assumption)) | (with_reducible refine Own.new' _ _ (by first | rfl | (simp; done)) rfl) | (with_reducible refine Own.drew ?_) | (with_reducible refine Own.drewN ?_ _) | (with_reducible refine Own.alloc ?_ _) | (with_reducible refine Own.setOther ?_ ?_ _) | (refine Own.below ?_ (by with_reducible assumption) ?_) | omega | (simp; done) | (simp; omega))))
        · (repeat' (first | (with_reducible exact Below.refl _ _) | (with_reducible assumption) | (with_reducible refine Below.drew ?_) | (with_reducible refine below_drewN ?_ _) | (with_reducible refine Below.setCell ?_ ?_ _) | (with_reducible refine Below.alloc ?_ ?_ _) | (refine Below.trans ?_ (Below.mono (by with_reducible assumption) ?_)) | omega | (exact Below.size (by with_reducible assumption)) | (simp; done) | (simp; omega)))
        · first | omega | (simp; omega)
    case rest =>
      obtain ⟨g, rfl, rfl, ⟨lg, cg, fg⟩, hbw, hlg⟩ := hcut
      go_wp2_with fail
      refine (nearest65 _ _ _ _ _ _ _ _ _ ha hb hc hd hl hlh hh ⟨hp, hp'⟩ ⟨g1, g2⟩).mono ?_
      rintro e w1 ⟨rfl, hb1⟩
      go_wp2
      go_ret2
      exact ⟨rfl, by (repeat' (first | (with_reducible exact Below.refl _ _) | (with_reducible assumption) | (with_reducible refine Below.drew ?_) | (with_reducible refine below_drewN ?_ _) | (with_reducible refine Below.setCell ?_ ?_ _) | (with_reducible refine Below.alloc ?_ ?_ _) | (refine Below.trans ?_ (Below.mono (by with_reducible assumption) ?_)) | omega | (exact Below.size (by with_reducible assumption)) | (simp; done) | (simp; omega)))⟩
  · have hv : scaleR a b c d lo hi sc p q = ⟨0, wishE a b c d lo hi p q (btw sc 1 100)⟩ := by simp [scaleR, hw]
    rw [hv]; clear hv
    generalize hE : wishE a b c d lo hi p q (btw sc 1 100) = E at *
    have HE := Lib.hid hE
    clear hE
    generalize hB : btw sc 1 100 = B at *
    have HB := Lib.hid hB
    clear hB
    go_enter Try.func28, Try.ntmps28
    go_upto_region 1 with fail
    go_cut [8, 9] (fun _ s9 wx => s9 = .int .i64 E ∧ Below w.heap.size w wx)
    case first =>
      have o0 : Own ((w.alloc (.cells #[.int .i64 a, .int .i64 b, .int .i64 c, .int .i64 d, .int .i64 lo, .int .i64 hi] 41)).alloc (.cells #[.int .i64 p, .int .i64 q] 23)) w.heap.size [.int .i64 a, .int .i64 b, .int .i64 c, .int .i64 d, .int .i64 lo, .int .i64 hi] := (Own.new' _ _ rfl rfl).alloc _
      have o1 : Own ((w.alloc (.cells #[.int .i64 a, .int .i64 b, .int .i64 c, .int .i64 d, .int .i64 lo, .int .i64 hi] 41)).alloc (.cells #[.int .i64 p, .int .i64 q] 23)) (w.heap.size + 1) [.int .i64 p, .int .i64 q] := Own.new' _ _ (by simp) rfl
      have hB : Below w.heap.size w ((w.alloc (.cells #[.int .i64 a, .int .i64 b, .int .i64 c, .int .i64 d, .int .i64 lo, .int .i64 hi] 41)).alloc (.cells #[.int .i64 p, .int .i64 q] 23)) := by (repeat' (first | (with_reducible exact Below.refl _ _) | (with_reducible assumption) | (with_reducible refine Below.drew ?_) | (with_reducible refine below_drewN ?_ _) | (with_reducible refine Below.setCell ?_ ?_ _) | (with_reducible refine Below.alloc ?_ ?_ _) | (refine Below.trans ?_ (Below.mono (by with_reducible assumption) ?_)) | omega | (exact Below.size (by with_reducible assumption)) | (simp; done) | (simp; omega)))
      generalize ((w.alloc (.cells #[.int .i64 a, .int .i64 b, .int .i64 c, .int .i64 d, .int .i64 lo, .int .i64 hi] 41)).alloc (.cells #[.int .i64 p, .int .i64 q] 23)) = W at *
      have l0 := o0.lt
      have l1 := o1.lt
      go_region_held3 (fun w' => Own w' w.heap.size [.int .i64 a, .int .i64 b, .int .i64 c, .int .i64 d, .int .i64 lo, .int .i64 hi] ∧ Own w' (w.heap.size + 1) [.int .i64 p, .int .i64 q] ∧ (∀ i, w'.cell? ⟨w.heap.size, i, none⟩ = [.int .i64 a, .int .i64 b, .int .i64 c, .int .i64 d, .int .i64 lo, .int .i64 hi][i]?) ∧ (∀ i, w'.cell? ⟨w.heap.size + 1, i, none⟩ = [.int .i64 p, .int .i64 q][i]?)) ((refine ⟨?_, ?_, Own.c ?_, Own.c ?_⟩ <;> (repeat' (first | (with_reducible assumption) | (with_reducible exact Own.mk (by with_reducible assumption) (by with_reducible assumption) (by with_reducible assumption)) | (with_reducible refine Own.new' _ _ (by first | rfl | (simp; done)) rfl) | (with_reducible refine Own.drew ?_) | (with_reducible refine Own.drewN ?_ _) | (with_reducible refine Own.alloc ?_ _) | (with_reducible refine Own.setOther ?_ ?_ _) | (refine Own.below ?_ (by with_reducible assumption) ?_) | omega | (simp; done) | (simp; omega))))) ((first | (go_at_call 53; refine (within53 _ _ _ _).mono ?_; rw [HB.out]; rintro e w1 ⟨rfl, rfl⟩) | (go_at_call 64; refine (wishFor64_bad _ _ _ _ _ _ _ _ _ _ E HE hw).mono ?_; rintro e w1 ⟨rfl, hb1⟩; have hz1 := hb1.size; (try simp at hz1); (try (have hcn := fun o => (bcell hb1).1 W.heap.size o (by first | omega | (simp; done) | (simp; omega)))); (try (have hfn := fun o => (bcell hb1).2 W.heap.size o (by first | omega | (simp; done) | (simp; omega)))))))
      all_goals
        go_wp2_with fail
        go_meet
        exact ⟨rfl, by (repeat' (first | (with_reducible exact Below.refl _ _) | (with_reducible assumption) | (with_reducible refine Below.drew ?_) | (with_reducible refine below_drewN ?_ _) | (with_reducible refine Below.setCell ?_ ?_ _) | (with_reducible refine Below.alloc ?_ ?_ _) | (refine Below.trans ?_ (Below.mono (by with_reducible assumption) ?_)) | omega | (exact Below.size (by with_reducible assumption)) | (simp; done) | (simp; omega)))⟩
    case rest =>
      obtain ⟨rfl, hbw⟩ := hcut
      go_wp2
      go_ret2
      exact ⟨rfl, hbw⟩

set_option maxHeartbeats 2000000 in
theorem off30 (a b c d lo hi s p q : Int) (w : World) :
    Calls Try.prog 30 #[.agg #[.int .i64 a, .int .i64 b, .int .i64 c, .int .i64 d, .int .i64 lo, .int .i64 hi], .int .i64 s, .agg #[.int .i64 p, .int .i64 q]] w fun e w' => e = .returned (.tuple #[.agg #[.int .i64 (offR a b c d lo hi s p q).n, .int .i64 (offR a b c d lo hi s p q).d], .int .i64 (offR a b c d lo hi s p q).e]) ∧ Below w.heap.size w w' := by
  by_cases hw : wishE a b c d lo hi p q (btw s lo hi) = 0
  · have hv : offR a b c d lo hi s p q = told (offV a b c d p q s) (p * (b * d)) := by simp [offR, hw]
    rw [hv]; clear hv
    obtain ⟨h1, h2, h4, h3⟩ := wishE_ok hw
    clear hw
    obtain ⟨ha, hb, hc, hd, ⟨hl, hlh⟩, hh⟩ := armB_iff.1 h1
    obtain ⟨⟨hq, hq'⟩, hp, hp'⟩ := ratB_iff.1 h2
    have hs := btw_iff.1 h4
    have hs' : 1 ≤ s ∧ s ≤ 10000 := by omega
    have H1 := Lib.hid h1
    have H2 := Lib.hid h2
    have H4 := Lib.hid h4
    clear h1 h2 h4
    have hob : 0 ≤ offV a b c d p q s ∧ offV a b c d p q s ≤ 2000000000000000000 := by
      have := arm_off ha hb hc hd hs' ⟨hp, hp'⟩ (show 1 ≤ q ∧ q ≤ 10000000000 by omega)
      unfold offV; omega
    have hpb : 1 ≤ p * (b * d) ∧ p * (b * d) ≤ 10000000000 := by
      have e1 := arm_off ha hb hc hd hs' ⟨hp, hp'⟩ (show 1 ≤ q ∧ q ≤ 10000000000 by omega)
      have e2 := arm_mul ha hb hc hd hs'
      have e3 := Int.mul_pos h3 (show 0 < b * d by omega)
      omega
    have hbd := (arm_mul ha hb hc hd hs').2.2
    go_enter Try.func30, Try.ntmps30
    go_upto_region 1 with fail
    go_cut [8, 9] (fun s8 s9 wx => ∃ g : Nat, s8 = .pointer (some ⟨g, 0, none⟩) ∧ s9 = .int .i64 0 ∧ Own wx g [.int .i64 a, .int .i64 b, .int .i64 c, .int .i64 d, .int .i64 lo, .int .i64 hi, .int .i64 p, .int .i64 q] ∧ Own wx w.heap.size [.int .i64 a, .int .i64 b, .int .i64 c, .int .i64 d, .int .i64 lo, .int .i64 hi] ∧ Own wx (w.heap.size + 2) [.int .i64 0, .int .i64 0] ∧ Below w.heap.size w wx ∧ w.heap.size + 2 < g)
    case first =>
      have o0 : Own (((w.alloc (.cells #[.int .i64 a, .int .i64 b, .int .i64 c, .int .i64 d, .int .i64 lo, .int .i64 hi] 41)).alloc (.cells #[.int .i64 p, .int .i64 q] 23)).alloc (.cells #[.int .i64 0, .int .i64 0] 23)) w.heap.size [.int .i64 a, .int .i64 b, .int .i64 c, .int .i64 d, .int .i64 lo, .int .i64 hi] := ((Own.new' _ _ rfl rfl).alloc _).alloc _
      have o1 : Own (((w.alloc (.cells #[.int .i64 a, .int .i64 b, .int .i64 c, .int .i64 d, .int .i64 lo, .int .i64 hi] 41)).alloc (.cells #[.int .i64 p, .int .i64 q] 23)).alloc (.cells #[.int .i64 0, .int .i64 0] 23)) (w.heap.size + 1) [.int .i64 p, .int .i64 q] := (Own.new' _ _ (by simp) rfl).alloc _
      have o2 : Own (((w.alloc (.cells #[.int .i64 a, .int .i64 b, .int .i64 c, .int .i64 d, .int .i64 lo, .int .i64 hi] 41)).alloc (.cells #[.int .i64 p, .int .i64 q] 23)).alloc (.cells #[.int .i64 0, .int .i64 0] 23)) (w.heap.size + 2) [.int .i64 0, .int .i64 0] := Own.new' _ _ (by simp) rfl
      have hB : Below w.heap.size w (((w.alloc (.cells #[.int .i64 a, .int .i64 b, .int .i64 c, .int .i64 d, .int .i64 lo, .int .i64 hi] 41)).alloc (.cells #[.int .i64 p, .int .i64 q] 23)).alloc (.cells #[.int .i64 0, .int .i64 0] 23)) := by (repeat' (first | (with_reducible exact Below.refl _ _) | (with_reducible assumption) | (with_reducible refine Below.drew ?_) | (with_reducible refine below_drewN ?_ _) | (with_reducible refine Below.setCell ?_ ?_ _) | (with_reducible refine Below.alloc ?_ ?_ _) | (refine Below.trans ?_ (Below.mono (by with_reducible assumption) ?_)) | omega | (exact Below.size (by with_reducible assumption)) | (simp; done) | (simp; omega)))
      generalize (((w.alloc (.cells #[.int .i64 a, .int .i64 b, .int .i64 c, .int .i64 d, .int .i64 lo, .int .i64 hi] 41)).alloc (.cells #[.int .i64 p, .int .i64 q] 23)).alloc (.cells #[.int .i64 0, .int .i64 0] 23)) = W at *
      have l0 := o0.lt
      have l1 := o1.lt
      have l2 := o2.lt
      have oz : Own (W.alloc (.cells #[.int .i64 0, .int .i64 0, .int .i64 0, .int .i64 0, .int .i64 0, .int .i64 0, .int .i64 0, .int .i64 0] 87)) W.heap.size [.int .i64 0, .int .i64 0, .int .i64 0, .int .i64 0, .int .i64 0, .int .i64 0, .int .i64 0, .int .i64 0] := Own.new' _ _ rfl rfl
      go_region_held3 (fun w' => Own w' w.heap.size [.int .i64 a, .int .i64 b, .int .i64 c, .int .i64 d, .int .i64 lo, .int .i64 hi] ∧ Own w' (w.heap.size + 1) [.int .i64 p, .int .i64 q] ∧ Own w' (w.heap.size + 2) [.int .i64 0, .int .i64 0] ∧ (∀ i, w'.cell? ⟨w.heap.size, i, none⟩ = [.int .i64 a, .int .i64 b, .int .i64 c, .int .i64 d, .int .i64 lo, .int .i64 hi][i]?) ∧ (∀ i, w'.cell? ⟨w.heap.size + 1, i, none⟩ = [.int .i64 p, .int .i64 q][i]?)) ((refine ⟨?_, ?_, ?_, Own.c ?_, Own.c ?_⟩ <;> (repeat' (first | (with_reducible assumption) | (with_reducible exact Own.mk (by with_reducible assumption) (by with_reducible assumption) (by with_reducible assumption)) | (with_reducible refine Own.new' _ _ (by first | rfl | (simp; done)) rfl) | (with_reducible refine Own.drew ?_) | (with_reducible refine Own.drewN ?_ _) | (with_reducible refine Own.alloc ?_ _) | (with_reducible refine Own.setOther ?_ ?_ _) | (refine Own.below ?_ (by with_reducible assumption) ?_) | omega | (simp; done) | (simp; omega))))) ((first | (go_at_call 67; refine (isSetting67 _ _ _ _ _ _ _ _).mono ?_; rw [H4.out]; rintro e wa ⟨rfl, hba⟩; have hza := hba.size; (try simp at hza); (try (have hcn := fun o => (bcell hba).1 W.heap.size o (by first | omega | (simp; done) | (simp; omega)))); (try (have hfn := fun o => (bcell hba).2 W.heap.size o (by first | omega | (simp; done) | (simp; omega))))) | (go_at_call 64; refine (wishFor64_ok _ _ _ _ _ _ _ _ _ H1.out H2.out h3).mono ?_; rintro e w1 ⟨rfl, hb1⟩; have hz1 := hb1.size; (try simp at hz1); (try (have hcn' := fun o => (bcell hb1).1 W.heap.size o (by first | omega | (simp; done) | (simp; omega)))); (try (have hfn' := fun o => (bcell hb1).2 W.heap.size o (by first | omega | (simp; done) | (simp; omega)))); (try (have hcm := fun o => (bcell hb1).1 wa.heap.size o (by first | omega | (simp; done) | (simp; omega)))); (try (have hfm := fun o => (bcell hb1).2 wa.heap.size o (by first | omega | (simp; done) | (simp; omega)))))))
      all_goals
        go_wp2_with fail
        go_meet
        refine ⟨_, rfl, rfl, ?_, ?_, ?_, ?_, ?_⟩
        · first
          | (with_reducible refine Own.new' _ _ rfl rfl)
          | (with_reducible refine Own.drew ?_; with_reducible refine own_set8 (vs := [.int .i64 0, .int .i64 0, .int .i64 0, .int .i64 0, .int .i64 0, .int .i64 0, .int .i64 0, .int .i64 0]) ?_ rfl _ _ _ _ _ _ _ _; (repeat' (first | (with_reducible assumption) | (with_reducible exact Own.mk (by with_reducible assumption) (by with_reducible assumption) (by with_reducible assumption)) | (with_reducible refine Own.new' _ _ (by first | rfl | (simp; done)) rfl) | (with_reducible refine Own.drew ?_) | (with_reducible refine Own.drewN ?_ _) | (with_reducible refine Own.alloc ?_ _) | (with_reducible refine Own.setOther ?_ ?_ _) | (refine Own.below ?_ (by with_reducible assumption) ?_) | omega | (simp; done) | (simp; omega))))
          | (with_reducible refine own_set8 (vs := [.int .i64 0, .int .i64 0, .int .i64 0, .int .i64 0, .int .i64 0, .int .i64 0, .int .i64 0, .int .i64 0]) ?_ rfl _ _ _ _ _ _ _ _; (repeat' (first | (with_reducible assumption) | (with_reducible exact Own.mk (by with_reducible assumption) (by with_reducible assumption) (by with_reducible assumption)) | (with_reducible refine Own.new' _ _ (by first | rfl | (simp; done)) rfl) | (with_reducible refine Own.drew ?_) | (with_reducible refine Own.drewN ?_ _) | (with_reducible refine Own.alloc ?_ _) | (with_reducible refine Own.setOther ?_ ?_ _) | (refine Own.below ?_ (by with_reducible assumption) ?_) | omega | (simp; done) | (simp; omega))))
        · (repeat' (first | (with_reducible assumption) | (with_reducible exact Own.mk (by with_reducible assumption) (by with_reducible assumption) (by with_reducible assumption)) | (with_reducible refine Own.new' _ _ (by first | rfl | (simp; done)) rfl) | (with_reducible refine Own.drew ?_) | (with_reducible refine Own.drewN ?_ _) | (with_reducible refine Own.alloc ?_ _) | (with_reducible refine Own.setOther ?_ ?_ _) | (refine Own.below ?_ (by with_reducible assumption) ?_) | omega | (simp; done) | (simp; omega)))
        · (repeat' (first | (with_reducible assumption) | (with_reducible exact Own.mk (by with_reducible assumption) (by with_reducible assumption) (by with_reducible assumption)) | (with_reducible refine Own.new' _ _ (by first | rfl | (simp; done)) rfl) | (with_reducible refine Own.drew ?_) | (with_reducible refine Own.drewN ?_ _) | (with_reducible refine Own.alloc ?_ _) | (with_reducible refine Own.setOther ?_ ?_ _) | (refine Own.below ?_ (by with_reducible assumption) ?_) | omega | (simp; done) | (simp; omega)))
        · (repeat' (first | (with_reducible exact Below.refl _ _) | (with_reducible assumption) | (with_reducible refine Below.drew ?_) | (with_reducible refine below_drewN ?_ _) | (with_reducible refine Below.setCell ?_ ?_ _) | (with_reducible refine Below.alloc ?_ ?_ _) | (refine Below.trans ?_ (Below.mono (by with_reducible assumption) ?_)) | omega | (exact Below.size (by with_reducible assumption)) | (simp; done) | (simp; omega)))
        · first | omega | (simp; omega)
    case rest =>
      obtain ⟨g, rfl, rfl, og, o0, o2, hbw, hlg⟩ := hcut
      obtain ⟨l0, c0, f0⟩ := o0
      have lg := og.lt
      go_wp2_with fail
      refine (value68 _ _ _ _ _ _ _ _ ha hb hc hd hs').mono ?_
      rintro e w1 ⟨rfl, hb1⟩
      have og1 := og.below hb1 lg
      have o21 : Own w1 (w.heap.size + 2) [.int .i64 0, .int .i64 0] := o2.below hb1 o2.lt
      have hz1 := hb1.size
      have hcg := og1.c
      have hbw1 : Below w.heap.size w w1 := by (repeat' (first | (with_reducible exact Below.refl _ _) | (with_reducible assumption) | (with_reducible refine Below.drew ?_) | (with_reducible refine below_drewN ?_ _) | (with_reducible refine Below.setCell ?_ ?_ _) | (with_reducible refine Below.alloc ?_ ?_ _) | (refine Below.trans ?_ (Below.mono (by with_reducible assumption) ?_)) | omega | (exact Below.size (by with_reducible assumption)) | (simp; done) | (simp; omega)))
      have lg1 := og1.lt
      clear og o2 hb1 hbw
      go_upto_region 5 with fail
      go_cut [7] (fun s7 wx => s7 = .int .i64 (told (offV a b c d p q s) (p * (b * d))).e ∧ Own wx (w.heap.size + 2) [.int .i64 (told (offV a b c d p q s) (p * (b * d))).n, .int .i64 (told (offV a b c d p q s) (p * (b * d))).d] ∧ Below w.heap.size w wx)
      case first =>
        have hwr : IntKind.i64.wrap (p * (b * d)) = p * (b * d) := IntWalk.i64_in _ (by omega)
        have c21 := o21.c
        have f21 := o21.f
        have l21 := o21.lt
        go_region_with (first | (go_at_call 69; refine (off69 _ _ _ _ _ _ _ _ _ _ ha hb hc hd hs' ⟨hp, hp'⟩ ⟨hq, by omega⟩).mono ?_; rintro e w2 ⟨rfl, hb2⟩; have hz2 := hb2.size; (try simp at hz2); have k1 := fun o => (bcell hb2).1 g o (by first | omega | (simp; done) | (simp; omega)); have k2 := fun o => (bcell hb2).1 (w.heap.size + 2) o (by first | omega | (simp; done) | (simp; omega)); have k3 := fun o => (bcell hb2).2 (w.heap.size + 2) o (by first | omega | (simp; done) | (simp; omega))) | (go_at_call 62; refine (told62 _ _ _ (by omega) (by omega) (by omega) (by omega)).mono ?_; rintro e w3 ⟨rfl, hb3⟩; have hz3 := hb3.size; (try simp at hz3); have k1 := fun o => (bcell hb3).1 g o (by first | omega | (simp; done) | (simp; omega)); have k2 := fun o => (bcell hb3).1 (w.heap.size + 2) o (by first | omega | (simp; done) | (simp; omega)); have k3 := fun o => (bcell hb3).2 (w.heap.size + 2) o (by first | omega | (simp; done) | (simp; omega))))
        all_goals
          go_wp2_with fail
          go_meet
          refine ⟨rfl, ?_, by (repeat' (first | (with_reducible exact Below.refl _ _) | (with_reducible assumption) | (with_reducible refine Below.drew ?_) | (with_reducible refine below_drewN ?_ _) | (with_reducible refine Below.setCell ?_ ?_ _) | (with_reducible refine Below.alloc ?_ ?_ _) | (refine Below.trans ?_ (Below.mono (by with_reducible assumption) ?_)) | omega | (exact Below.size (by with_reducible assumption)) | (simp; done) | (simp; omega)))⟩
          first
          | (with_reducible refine own_set2 (vs := [.int .i64 0, .int .i64 0]) ?_ rfl _ _; (repeat' (first | (with_reducible assumption) | (with_reducible exact Own.mk (by with_reducible assumption) (by with_reducible assumption) (by with_reducible assumption)) | (with_reducible refine Own.new' _ _ (by first | rfl | (simp; done)) rfl) | (with_reducible refine Own.drew ?_) | (with_reducible refine Own.drewN ?_ _) | (with_reducible refine Own.alloc ?_ _) | (with_reducible refine Own.setOther ?_ ?_ _) | (refine Own.below ?_ (by with_reducible assumption) ?_) | omega | (simp; done) | (simp; omega))))
          | (with_reducible refine Own.drew ?_; with_reducible refine own_set2 (vs := [.int .i64 0, .int .i64 0]) ?_ rfl _ _; (repeat' (first | (with_reducible assumption) | (with_reducible exact Own.mk (by with_reducible assumption) (by with_reducible assumption) (by with_reducible assumption)) | (with_reducible refine Own.new' _ _ (by first | rfl | (simp; done)) rfl) | (with_reducible refine Own.drew ?_) | (with_reducible refine Own.drewN ?_ _) | (with_reducible refine Own.alloc ?_ _) | (with_reducible refine Own.setOther ?_ ?_ _) | (refine Own.below ?_ (by with_reducible assumption) ?_) | omega | (simp; done) | (simp; omega))))
      case rest =>
        obtain ⟨rfl, ⟨l2, c2, f2⟩, hbw⟩ := hcut
        go_wp2
        refine bodyPost_ret (v := .tuple #[.agg #[.int .i64 (told (offV a b c d p q s) (p * (b * d))).n, .int .i64 (told (offV a b c d p q s) (p * (b * d))).d], .int .i64 (told (offV a b c d p q s) (p * (b * d))).e]) (by simp [results, Try.results30, go_sem, *]) rfl ⟨rfl, hbw⟩
  · have hv : offR a b c d lo hi s p q = ⟨0, 0, wishE a b c d lo hi p q (btw s lo hi)⟩ := by simp [offR, hw]
    rw [hv]; clear hv
    generalize hE : wishE a b c d lo hi p q (btw s lo hi) = E at *
    have HE := Lib.hid hE
    clear hE
    generalize hB : btw s lo hi = B at *
    have HB := Lib.hid hB
    clear hB
    go_enter Try.func30, Try.ntmps30
    go_upto_region 1 with fail
    go_cut [8, 9] (fun _ s9 wx => s9 = .int .i64 E ∧ Own wx (w.heap.size + 2) [.int .i64 0, .int .i64 0] ∧ Below w.heap.size w wx)
    case first =>
      have o0 : Own (((w.alloc (.cells #[.int .i64 a, .int .i64 b, .int .i64 c, .int .i64 d, .int .i64 lo, .int .i64 hi] 41)).alloc (.cells #[.int .i64 p, .int .i64 q] 23)).alloc (.cells #[.int .i64 0, .int .i64 0] 23)) w.heap.size [.int .i64 a, .int .i64 b, .int .i64 c, .int .i64 d, .int .i64 lo, .int .i64 hi] := ((Own.new' _ _ rfl rfl).alloc _).alloc _
      have o1 : Own (((w.alloc (.cells #[.int .i64 a, .int .i64 b, .int .i64 c, .int .i64 d, .int .i64 lo, .int .i64 hi] 41)).alloc (.cells #[.int .i64 p, .int .i64 q] 23)).alloc (.cells #[.int .i64 0, .int .i64 0] 23)) (w.heap.size + 1) [.int .i64 p, .int .i64 q] := (Own.new' _ _ (by simp) rfl).alloc _
      have o2 : Own (((w.alloc (.cells #[.int .i64 a, .int .i64 b, .int .i64 c, .int .i64 d, .int .i64 lo, .int .i64 hi] 41)).alloc (.cells #[.int .i64 p, .int .i64 q] 23)).alloc (.cells #[.int .i64 0, .int .i64 0] 23)) (w.heap.size + 2) [.int .i64 0, .int .i64 0] := Own.new' _ _ (by simp) rfl
      have hB : Below w.heap.size w (((w.alloc (.cells #[.int .i64 a, .int .i64 b, .int .i64 c, .int .i64 d, .int .i64 lo, .int .i64 hi] 41)).alloc (.cells #[.int .i64 p, .int .i64 q] 23)).alloc (.cells #[.int .i64 0, .int .i64 0] 23)) := by (repeat' (first | (with_reducible exact Below.refl _ _) | (with_reducible assumption) | (with_reducible refine Below.drew ?_) | (with_reducible refine below_drewN ?_ _) | (with_reducible refine Below.setCell ?_ ?_ _) | (with_reducible refine Below.alloc ?_ ?_ _) | (refine Below.trans ?_ (Below.mono (by with_reducible assumption) ?_)) | omega | (exact Below.size (by with_reducible assumption)) | (simp; done) | (simp; omega)))
      generalize (((w.alloc (.cells #[.int .i64 a, .int .i64 b, .int .i64 c, .int .i64 d, .int .i64 lo, .int .i64 hi] 41)).alloc (.cells #[.int .i64 p, .int .i64 q] 23)).alloc (.cells #[.int .i64 0, .int .i64 0] 23)) = W at *
      have l0 := o0.lt
      have l1 := o1.lt
      have l2 := o2.lt
      go_region_held3 (fun w' => Own w' w.heap.size [.int .i64 a, .int .i64 b, .int .i64 c, .int .i64 d, .int .i64 lo, .int .i64 hi] ∧ Own w' (w.heap.size + 1) [.int .i64 p, .int .i64 q] ∧ Own w' (w.heap.size + 2) [.int .i64 0, .int .i64 0] ∧ (∀ i, w'.cell? ⟨w.heap.size, i, none⟩ = [.int .i64 a, .int .i64 b, .int .i64 c, .int .i64 d, .int .i64 lo, .int .i64 hi][i]?) ∧ (∀ i, w'.cell? ⟨w.heap.size + 1, i, none⟩ = [.int .i64 p, .int .i64 q][i]?)) ((refine ⟨?_, ?_, ?_, Own.c ?_, Own.c ?_⟩ <;> (repeat' (first | (with_reducible assumption) | (with_reducible exact Own.mk (by with_reducible assumption) (by with_reducible assumption) (by with_reducible assumption)) | (with_reducible refine Own.new' _ _ (by first | rfl | (simp; done)) rfl) | (with_reducible refine Own.drew ?_) | (with_reducible refine Own.drewN ?_ _) | (with_reducible refine Own.alloc ?_ _) | (with_reducible refine Own.setOther ?_ ?_ _) | (refine Own.below ?_ (by with_reducible assumption) ?_) | omega | (simp; done) | (simp; omega))))) ((first | (go_at_call 67; refine (isSetting67 _ _ _ _ _ _ _ _).mono ?_; rw [HB.out]; rintro e wa ⟨rfl, hba⟩; have hza := hba.size; (try simp at hza); (try (have hcn := fun o => (bcell hba).1 W.heap.size o (by first | omega | (simp; done) | (simp; omega)))); (try (have hfn := fun o => (bcell hba).2 W.heap.size o (by first | omega | (simp; done) | (simp; omega))))) | (go_at_call 64; refine (wishFor64_bad _ _ _ _ _ _ _ _ _ _ E HE hw).mono ?_; rintro e w1 ⟨rfl, hb1⟩; have hz1 := hb1.size; (try simp at hz1); (try (have hcn' := fun o => (bcell hb1).1 W.heap.size o (by first | omega | (simp; done) | (simp; omega)))); (try (have hfn' := fun o => (bcell hb1).2 W.heap.size o (by first | omega | (simp; done) | (simp; omega)))); (try (have hcm := fun o => (bcell hb1).1 wa.heap.size o (by first | omega | (simp; done) | (simp; omega)))); (try (have hfm := fun o => (bcell hb1).2 wa.heap.size o (by first | omega | (simp; done) | (simp; omega)))))))
      all_goals
        go_wp2_with fail
        go_meet
        exact ⟨rfl, by (repeat' (first | (with_reducible assumption) | (with_reducible exact Own.mk (by with_reducible assumption) (by with_reducible assumption) (by with_reducible assumption)) | (with_reducible refine Own.new' _ _ (by first | rfl | (simp; done)) rfl) | (with_reducible refine Own.drew ?_) | (with_reducible refine Own.drewN ?_ _) | (with_reducible refine Own.alloc ?_ _) | (with_reducible refine Own.setOther ?_ ?_ _) | (refine Own.below ?_ (by with_reducible assumption) ?_) | omega | (simp; done) | (simp; omega))), by (repeat' (first | (with_reducible exact Below.refl _ _) | (with_reducible assumption) | (with_reducible refine Below.drew ?_) | (with_reducible refine below_drewN ?_ _) | (with_reducible refine Below.setCell ?_ ?_ _) | (with_reducible refine Below.alloc ?_ ?_ _) | (refine Below.trans ?_ (Below.mono (by with_reducible assumption) ?_)) | omega | (exact Below.size (by with_reducible assumption)) | (simp; done) | (simp; omega)))⟩
    case rest =>
      obtain ⟨rfl, ⟨l2, c2, f2⟩, hbw⟩ := hcut
      go_wp2
      refine bodyPost_ret (v := .tuple #[.agg #[.int .i64 0, .int .i64 0], .int .i64 E]) (by simp [results, Try.results30, go_sem, *]) rfl ⟨rfl, ?_⟩
      (repeat' (first | (with_reducible exact Below.refl _ _) | (with_reducible assumption) | (with_reducible refine Below.drew ?_) | (with_reducible refine below_drewN ?_ _) | (with_reducible refine Below.setCell ?_ ?_ _) | (with_reducible refine Below.alloc ?_ ?_ _) | (refine Below.trans ?_ (Below.mono (by with_reducible assumption) ?_)) | omega | (exact Below.size (by with_reducible assumption)) | (simp; done) | (simp; omega)))

end Go.Proofs.Ytfboiplpfkommaa
