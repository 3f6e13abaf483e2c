/- ArmsBest: Best returns what the document specifies, for any ratio and number. No condition: every input (a number from 201 to MaxTerm is passed over by the law itself). -/
import Derived.Test.YtfboiplpfkommaaRows
import Derived.Test.YtfboiplpfkommaaFrame
import Derived.Test.YtfboiplpfkommaaWr
import Derived.Test.YtfboiplpfkommaaWg
import Derived.Test.YtfboiplpfkommaaBestQ
namespace Go.Proofs.Ytfboiplpfkommaa
open Go.ChangeShapes Go.WideShapes Go.ChangeAt Go.RowKit

set_option maxRecDepth 100000 in
set_option maxHeartbeats 4000000 in
theorem armsBest3 (n d most : Int) (w : World) : Calls Try.prog 3 #[.agg #[.int .i64 n, .int .i64 d], .int .i64 most] w fun e w' => e = .returned (.bool true) ∧ Below w.heap.size w w' := by
  by_cases h1 : 200 < most
  · by_cases h2 : most ≤ 1000000
    · go_enter Try.func3, Try.ntmps3
      go_wp2_with fail
      refine (works13 _).mono ?_
      rintro e w1 ⟨rfl, hb1⟩
      (have hz1 := hb1.size; (try simp at hz1))
      go_wp2
      go_ret
      exact ⟨rfl, by (repeat' (first | (with_reducible exact Below.refl _ _) | (with_reducible assumption) | (with_reducible refine Below.drew ?_) | (with_reducible refine below_drewN ?_ _) | (with_reducible refine Below.setCell ?_ ?_ _) | (with_reducible refine Below.alloc ?_ ?_ _) | (refine Below.trans ?_ (Below.mono (by with_reducible assumption) ?_)) | omega | (exact Below.size (by with_reducible assumption)) | (simp; done) | (simp; omega)))⟩
    · have hv := Lib.hid (bestV_eq n d most)
      go_enter Try.func3, Try.ntmps3
      go_wp2_with fail
      refine (best14 _ _ _ _).mono ?_
      rintro e w1 ⟨rfl, hb1⟩
      (have hz1 := hb1.size; (try simp at hz1); have hc1_0 := fun o => (bcell hb1).1 (w.heap.size) o (by first | omega | (simp; done) | (simp; omega)); have hf1_0 := fun o => (bcell hb1).2 (w.heap.size) o (by first | omega | (simp; done) | (simp; omega)); have : w.heap.size < w1.heap.size := (by first | omega | (simp; done) | (simp; omega)); have : w.heap.size < w1.heap.size + 1 := (by first | omega | (simp; done) | (simp; omega)); have : w.heap.size < w1.heap.size + 2 := (by first | omega | (simp; done) | (simp; omega)); have : w.heap.size < w1.heap.size + 3 := (by first | omega | (simp; done) | (simp; omega)))
      go_wp2_with fail
      refine (best15 _ _ _ _ (by omega)).mono ?_
      rw [← hv.out]
      rintro e w2 ⟨rfl, hb2⟩
      (have hz2 := hb2.size; (try simp at hz2); have hc2_0 := fun o => (bcell hb2).1 (w1.heap.size) o (by first | omega | (simp; done) | (simp; omega)); have hf2_0 := fun o => (bcell hb2).2 (w1.heap.size) o (by first | omega | (simp; done) | (simp; omega)); have : w1.heap.size < w2.heap.size := (by first | omega | (simp; done) | (simp; omega)); have : w1.heap.size < w2.heap.size + 1 := (by first | omega | (simp; done) | (simp; omega)); have : w1.heap.size < w2.heap.size + 2 := (by first | omega | (simp; done) | (simp; omega)); have : w1.heap.size < w2.heap.size + 3 := (by first | omega | (simp; done) | (simp; omega)))
      go_wp2_with fail
      refine (works13 _).mono ?_
      rintro e w3 ⟨rfl, hb3⟩
      (have hz3 := hb3.size; (try simp at hz3))
      go_wp2
      go_ret
      exact ⟨rfl, by (repeat' (first | (with_reducible exact Below.refl _ _) | (with_reducible assumption) | (with_reducible refine Below.drew ?_) | (with_reducible refine below_drewN ?_ _) | (with_reducible refine Below.setCell ?_ ?_ _) | (with_reducible refine Below.alloc ?_ ?_ _) | (refine Below.trans ?_ (Below.mono (by with_reducible assumption) ?_)) | omega | (exact Below.size (by with_reducible assumption)) | (simp; done) | (simp; omega)))⟩
  · have hv := Lib.hid (bestV_eq n d most)
    go_enter Try.func3, Try.ntmps3
    go_wp2_with fail
    refine (best14 _ _ _ _).mono ?_
    rintro e w1 ⟨rfl, hb1⟩
    (have hz1 := hb1.size; (try simp at hz1); have hc1_0 := fun o => (bcell hb1).1 (w.heap.size) o (by first | omega | (simp; done) | (simp; omega)); have hf1_0 := fun o => (bcell hb1).2 (w.heap.size) o (by first | omega | (simp; done) | (simp; omega)); have : w.heap.size < w1.heap.size := (by first | omega | (simp; done) | (simp; omega)); have : w.heap.size < w1.heap.size + 1 := (by first | omega | (simp; done) | (simp; omega)); have : w.heap.size < w1.heap.size + 2 := (by first | omega | (simp; done) | (simp; omega)); have : w.heap.size < w1.heap.size + 3 := (by first | omega | (simp; done) | (simp; omega)))
    go_wp2_with fail
    refine (best15 _ _ _ _ (by omega)).mono ?_
    rw [← hv.out]
    rintro e w2 ⟨rfl, hb2⟩
    (have hz2 := hb2.size; (try simp at hz2); have hc2_0 := fun o => (bcell hb2).1 (w1.heap.size) o (by first | omega | (simp; done) | (simp; omega)); have hf2_0 := fun o => (bcell hb2).2 (w1.heap.size) o (by first | omega | (simp; done) | (simp; omega)); have : w1.heap.size < w2.heap.size := (by first | omega | (simp; done) | (simp; omega)); have : w1.heap.size < w2.heap.size + 1 := (by first | omega | (simp; done) | (simp; omega)); have : w1.heap.size < w2.heap.size + 2 := (by first | omega | (simp; done) | (simp; omega)); have : w1.heap.size < w2.heap.size + 3 := (by first | omega | (simp; done) | (simp; omega)))
    go_wp2_with fail
    refine (works13 _).mono ?_
    rintro e w3 ⟨rfl, hb3⟩
    (have hz3 := hb3.size; (try simp at hz3))
    go_wp2
    go_ret
    exact ⟨rfl, by (repeat' (first | (with_reducible exact Below.refl _ _) | (with_reducible assumption) | (with_reducible refine Below.drew ?_) | (with_reducible refine below_drewN ?_ _) | (with_reducible refine Below.setCell ?_ ?_ _) | (with_reducible refine Below.alloc ?_ ?_ _) | (refine Below.trans ?_ (Below.mono (by with_reducible assumption) ?_)) | omega | (exact Below.size (by with_reducible assumption)) | (simp; done) | (simp; omega)))⟩

theorem ownArmsBest : ownKnob Try.prog.godebug = none := by kernel_rfl
theorem laidOutArmsBest : laidOutB Try.prog = true := by kernel_rfl
set_option maxRecDepth 100000 in
theorem liftedArmsBest (os : Os) (started : os.Started) (H : Type) (enc : TypeId × Value → H) :
    ReturnsInHanded {} Try.checked os 3 .any (Rows.armsBestSpec.pre6 enc Try.prog Try.f3 Rows.armsBestRow.domain false) (Rows.armsBestSpec.post enc Try.prog Try.f3 false true false false) := by
  refine returnsInHanded_of_change (C := Try.checked) ownArmsBest started (by kernel_rfl) Try.func3
    (ChangeSpec.witness6 (enc := enc) (C := Try.checked) false ⟨#[], #[.agg #[.int .i64 0, .int .i64 0], .int .i64 0], []⟩ 8 (by kernel_rfl) (by kernel_rfl) (by kernel_rfl) (by kernel_rfl)) ?_
  intro W base args ds gs before hval0 hW hcnd _
  have hval : ∀ (j : Nat) t v, Try.f3.params[j]? = some t → args[j]? = some v → Value.okWide Try.prog W .any base t v := hval0
  have hW' := hW
  obtain ⟨p, q, hA0, hV, rfl, hfz, hnd⟩ := hW
  have hA : DataW.TrodAll enc Try.prog W 0 (fun _ => true) true Try.f3.params.toList args.toList ds p := hA0
  rw [Try.params3] at hA hval
  obtain ⟨v0, vs0, d0, ds0, p0, q0, hargs, rfl, rfl, h0, r0⟩ := trodAll_cons hA
  obtain ⟨v1, vs1, d1, ds1, p1, q1, rfl, rfl, rfl, h1, r1⟩ := trodAll_cons r0
  obtain ⟨rfl, rfl, rfl⟩ := trodAll_nil r1
  obtain rfl : args = #[v0, v1] := by cases args; simp_all
  obtain ⟨rfl, rfl⟩ := trodVars_none hV
  have k0 := h0
  have lt0 : ∀ x ∈ p0, x.block < W.heap.size := by obtain ⟨m, hm⟩ := k0; exact DataW.trod_lt m _ _ _ hm
  obtain ⟨cs0, rfl, hl0, hc0⟩ := plain_agg (n := 5) Try.underlying23 (by kernel_rfl) (hval 0 23 v0 rfl rfl) h0
  obtain ⟨x00, x01, rfl⟩ := cells2 (hl0.trans (by kernel_rfl)) hc0
  have k1 := h1
  have lt1 : ∀ x ∈ p1, x.block < W.heap.size := by obtain ⟨m, hm⟩ := k1; exact DataW.trod_lt m _ _ _ hm
  obtain ⟨x1, rfl, _, _, w1⟩ := open_int Try.underlying3 (hval 1 3 v1 rfl rfl) h1
  clear hA0 hval0
  refine (armsBest3 x00 x01 x1 W).mono fun e W' ⟨he, bel⟩ => ?_
  subst he
  exact ⟨_, rfl, _, _, _, [], _, [], hW', trodAll_mk1 (shut_bool Try.underlying4 _), (trodAll_cons_mk (Below.trod laidOutArmsBest (by kernel_rfl) (of_decide_eq_true (by kernel_rfl)) k0 bel lt0) (trodAll_cons_mk (Below.trod laidOutArmsBest (by kernel_rfl) (of_decide_eq_true (by kernel_rfl)) k1 bel lt1) trodAll_mk0)), rfl, bel.frame _, fun h => by cases h⟩

theorem armsBest_over : Rows.armsBestRow.holds Try.pinned (OpenSpec.ofChange Rows.armsBestSpec) :=
  OpenClaim.holds_of_wide 3 Try.f3 rfl rfl rfl rfl rfl rfl rfl ⟨rfl, rfl, rfl, rfl, rfl⟩ rfl rfl rfl rfl rfl (by kernel_rfl) Try.func3 (by kernel_rfl)
    (of_decide_eq_true (by kernel_rfl)) (by unfold Func.isWrapper; rw [if_neg (of_decide_eq_false (by kernel_rfl))]; exact ⟨rfl, rfl⟩)
    (fun os started H enc _ => liftedArmsBest os started H enc)

/-- The statement. -/
theorem armsBest_holds : Rows.ArmsBestSaid := armsBest_over
#print axioms armsBest_holds

end Go.Proofs.Ytfboiplpfkommaa
